/- Texts put together: WSer, WSer2, WSer3. -/
import Derived.Test.YtgfkglhelfkpoaaGreatRB
import Derived.Test.YtgfkglhelfkpoaaGreatRA
import Derived.StillTailTactics
import Derived.BigRegion
import Derived.Lib.SliceRun
set_option maxRecDepth 100000
set_option maxHeartbeats 1000000
namespace Go.Proofs.YtgfkglhelfkpoaaGreat
section
open Go.RowKit Plain
def rowF (n:Nat) (f:Nat→Int):List Value:=(mk n f).map (Value.int .i64)
theorem rowF_get {n:Nat} {f:Nat→Int} {k:Nat} (h:k<n):(rowF n f)[k]? = some (.int .i64 (f k)):=by simp [rowF,mk,h]
theorem rowF_set {n k:Nat} {f:Nat→Int} (y:Int):(rowF n f).set k (.int .i64 y)=rowF n fun j=>if j=k then y else f j:=by
 apply List.ext_getElem?
 intro i
 by_cases hi:i<n
 ·rw [rowF_get hi]
  by_cases e:k=i
  ·subst e;rw [List.getElem?_set_self (by simp [rowF,mk,hi])];simp
  ·rw [List.getElem?_set_ne e,rowF_get hi,if_neg (fun h=>e h.symm)]
 ·rw [List.getElem?_eq_none (by simp [rowF,mk];omega),List.getElem?_eq_none (by simp [rowF,mk];omega)]
theorem rowF_congr {n:Nat} {f g:Nat→Int} (h:∀ k,k<n→f k=g k):rowF n f=rowF n g:=by unfold rowF;rw [mk_congr h]
theorem rowF_zero (n:Nat):(List.replicate n (Value.int .i64 0))=rowF n fun _=>0:=by
 apply List.ext_getElem?
 intro i
 by_cases hi:i<n
 ·rw [rowF_get hi];simp [hi]
 ·rw [List.getElem?_eq_none (by simp;omega),List.getElem?_eq_none (by simp [rowF,mk];omega)]
def upTo (f:Nat→Int) (k:Nat) (x:Int):Nat→Int:=fun j=>if j<k then f j else if j=k then x else 0
theorem upTo_set {n k:Nat} {f:Nat→Int} {x:Int} (y:Int):(rowF n (upTo f k x)).set k (.int .i64 y)=rowF n (upTo f k y):=by
 rw [rowF_set]
 refine rowF_congr fun j _=>?_
 unfold upTo
 by_cases h:j=k
 ·subst h;simp
 ·simp [h]
theorem upTo_zero {n:Nat} {f:Nat→Int}:rowF n (fun _=>0)=rowF n (upTo f 0 0):=by
 refine rowF_congr fun j _=>?_
 unfold upTo;rw [if_neg (by omega)];split<;>rfl
theorem cell_row {w:World} {g n k:Nat} {t:TypeId} {f:Nat→Int} (h:Cells w g t (rowF n f)) (hk:k<n):w.cell? ⟨g,k,none⟩=some (.int .i64 (f k)):=by
 rw [h.cell,rowF_get hk]
theorem Ints.cfAt {w:World} {A:Option Addr} {a:List Int} (h:Ints w A a) (h0:0<a.length):∃ b o,A=some ⟨b,o,none⟩∧b<w.heap.size∧∀ k,k<a.length→w.cell? ⟨b,o+k,none⟩=some (.int .i64 (cf a k)):=by
 obtain ⟨b,o,e,hl,hc⟩:=h h0
 exact ⟨b,o,e,hl,fun k hk=>hc k _ (cf_some hk)⟩
theorem Cells.intsM' {w:World} {g B:Nat} {t:TypeId} {zs:List Int} (h:Cells w g t (zs.map (Value.int .i64))) (hB:B≤g):IntsM w B (some ⟨g,0,none⟩) zs:=
 fun _=>⟨g,0,rfl,hB,h.lt,fun j x hx=>⟨by rw [h.cell,Nat.zero_add];simp [hx],h.frozen _⟩⟩
end
section
open Go.RowKit Plain
end
section
open Go.RowKit Plain
theorem isNumber_any (x:Int) (w:World):Calls Tryz.prog 172 #[.int .i64 x] w fun e w'=>e=.returned (.bool (inR x 0 1000002))∧w=w':=by
 go_enter Tryz.func172,Tryz.ntmps172
 go_wp2_with fail
 refine (within_any _ _ _ _).mono ?_;rintro e w' ⟨rfl,rfl⟩
 go_wp2
 go_ret
 exact ⟨rfl,rfl⟩
end
end Go.Proofs.YtgfkglhelfkpoaaGreat
