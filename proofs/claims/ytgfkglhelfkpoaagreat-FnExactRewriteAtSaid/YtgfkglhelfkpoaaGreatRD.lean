/- Parts of the proof. -/
import Derived.Test.YtgfkglhelfkpoaaGreatRB
import Derived.StillTailTactics
set_option maxRecDepth 100000
set_option maxHeartbeats 1000000
open Go.Proofs.Tryz
open Go.Value renaming int→I
open Go.IntKind renaming i64→J
open Option renaming some→M,none→U
open Go.Ending renaming returned→If
open Go renaming World→Iv,Calls→I0,Value→I1,Addr→I3
open Nat renaming zero_add→Mu
namespace Go.Proofs.YtgfkglhelfkpoaaGreat
section
open Go.RowKit Plain
def pR(n:Nat)(f:Nat->Int):List I1:=(mk n f).map (I J)
variable{n k:Nat}{f:Nat->Int}
theorem yO(h:k<n):(pR n f)[k]? = M (I J (f k)):=by simp[pR,mk,h]
theorem ZV(y:Int):(pR n f).set k (I J y)=pR n λj=>if j=k then y else f j:=by
 apply List.ext_getElem?;intro i
 by_cases hi:i<n
 ·rw[yO hi]
  by_cases e:k=i
  ·subst e;rw[List.getElem?_set_self (by simp[pR,mk,hi])];simp
  ·rw[List.getElem?_set_ne e,yO hi,if_neg (λh=>e h.symm)]
 ·rw[List.getElem?_eq_none (by simp[pR,mk];omega),List.getElem?_eq_none (by simp[pR,mk];omega)]
theorem Dx{g:Nat->Int}(h:∀ k,k<n->f k=g k):pR n f=pR n g:=by unfold pR;rw[mk_congr h]
theorem SE(n:Nat):(List.replicate n (I J 0))=pR n λ_=>0:=by
 apply List.ext_getElem?;intro i
 by_cases hi:i<n
 ·rw[yO hi];simp[hi]
 ·rw[List.getElem?_eq_none (by simp;omega),List.getElem?_eq_none (by simp[pR,mk];omega)]
def Ib(f:Nat->Int)(k:Nat)(x:Int):Nat->Int:=λj=>if j<k then f j else if j=k then x else 0
theorem aan{x:Int}(y:Int):(pR n (Ib f k x)).set k (I J y)=pR n (Ib f k y):=by
 rw[ZV];refine Dx λj _=>?_
 unfold Ib
 by_cases h:j=k
 ·subst h;simp
 ·simp[h]
theorem Tc:pR n (λ_=>0)=pR n (Ib f 0 0):=by
 refine Dx λj _=>?_
 unfold Ib;rw[if_neg ah];split<;>rfl
variable{w:Iv}{g:Nat}{t:TypeId}
theorem XW(h:au w g t (pR n f))(hk:k<n):w.cell? ⟨g,k,U⟩=M (I J (f k)):=by
 rw[h.cell,yO hk]
theorem Ints.zC{A:Option I3}{a:List Int}(h:Ints w A a)(h0:0<a.length):∃ b o,A=M ⟨b,o,U⟩/\b<w.heap.size/\∀ k,k<a.length->w.cell? ⟨b,o+k,U⟩=M (I J (cf a k)):=by
 obtain⟨b,o,e,hl,hc⟩:=h h0;exact⟨b,o,e,hl,λk hk=>hc k _ (aaX hk)⟩
theorem au.afB{B:Nat}{zs:List Int}(h:au w g t (zs.map (I J)))(hB:B<=g):vS w B (M ⟨g,0,U⟩) zs:=
 λ_=>⟨g,0,rfl,hB,h.lt,λj x hx=>⟨by rw[h.cell,Mu];simp[hx],h.frozen _⟩⟩
theorem GU(x:Int)(w:Iv):I0 Tryz.prog 172 #[I J x] w λe w'=>e=If (.bool (fP x 0 1000002))/\w=w':=by
 go_enter func172,ntmps172;go_wp2_with fail;refine (aT _ _ _ _).mono ?_;rintro e w' ⟨rfl,rfl⟩;go_wp2;go_ret;exact⟨rfl,rfl⟩
end
end Go.Proofs.YtgfkglhelfkpoaaGreat
