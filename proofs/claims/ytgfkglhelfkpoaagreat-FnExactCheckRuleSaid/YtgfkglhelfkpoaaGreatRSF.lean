/- Texts put together: WDerS. -/
import Derived.Test.YtgfkglhelfkpoaaGreatRSD
import Derived.Test.YtgfkglhelfkpoaaGreatRX
import Derived.Test.YtgfkglhelfkpoaaGreatRE
import Derived.Deep.RegionLaw
set_option maxRecDepth 100000
set_option maxHeartbeats 1000000
namespace Go.Proofs.YtgfkglhelfkpoaaGreat
section
open Go.RowKit Plain
def PolyR (u:Int) (R:List Term') (w:World) (e:Ending) (w':World):Prop:=
 ∃ A' cp,e=.returned (poV u A' R.length cp)∧RT w' w.heap.size w'.heap.size A' R∧Below w.heap.size w w'
theorem IntRow.setAt {w:World} {B g cap:Nat} {l:List Int} (h:IntRow w B (.slice (some ⟨g,0,none⟩) l.length cap) l) (v:Nat) (x:Int):IntRow (w.setCell ⟨g,v,none⟩ (.int .i64 x)) B (.slice (some ⟨g,0,none⟩) (l.set v x).length cap) (l.set v x):=by
 have:=(World.ownsRow.stored h v (.int .i64 x)).1
 unfold IntRow
 rw [List.length_set,List.map_set]
 exact this
theorem IntRow.at_ {w:World} {B cap v n:Nat} {A:Option Addr} {l:List Int} (h:IntRow w B (.slice A l.length cap) l) (hn:n=l.length) (hv:v<n):∃ g,A=some ⟨g,0,none⟩∧B≤g∧g<w.heap.size∧w.cell? ⟨g,v,none⟩=some (.int .i64 (cf l v))∧w.frozen? ⟨g,v,none⟩=false:=by
 obtain ⟨g,c,hv',h1,h2⟩:=World.ownsRow.form h (by omega)
 have hA:A=some ⟨g,0,none⟩:=by injection hv'
 subst hA
 refine ⟨g,rfl,h1,h2, ?_,World.ownsRow.frozenAt h v⟩
 have:=World.ownsRow.cellAt h v (by omega)
 rw [this,List.getElem?_map,List.getElem?_eq_getElem (by omega)]
 simp [cf,List.getD,show v<l.length by omega]
theorem RT.lowerR {w:World} {lo lo' hi:Nat} {A:Option Addr} {R:List Term'} (h:RT w lo hi A R) (hl:lo'≤lo) (hhi:hi≤w.heap.size):RT w lo' w.heap.size A R:=by
 refine ⟨by have:=h.le;omega,Nat.le_refl _,fun hn=>?_,fun _ _ h hb=>h.keep hb⟩
 obtain ⟨b,o,g,e,h1,h2,hc,hd⟩:=h.now hn
 refine ⟨b,o,g,e,by omega,by omega,fun i t ht=>?_,hd⟩
 obtain ⟨Ai,cap,c1,c2,c3,c4⟩:=hc i t ht
 refine ⟨Ai,cap,c1,c2,c3,fun h0=>?_⟩
 obtain ⟨oi,e1,e2,e3,e4,e5⟩:=c4 h0
 exact ⟨oi,e1,by omega,by omega,e4,e5⟩
theorem RT.empty (w:World) (lo:Nat) (h:lo≤w.heap.size) (A:Option Addr):RT w lo w.heap.size A []:=⟨h,Nat.le_refl _,TmsR.nil _ _ _ _,fun _ _ h hb=>h.keep hb⟩
theorem retQ {w w1:World} {v0 c:Int} {A:Option Addr} {cp lo:Nat} {R:List Term'} (hb:Below w.heap.size w w1) (h:RT w1 lo w1.heap.size A R) (hlo:w.heap.size+1<lo) (x y:Value) :
  RetQi (v0,R) c w (.returned (.tuple #[poV v0 A R.length cp,.int .i64 c])) ((w1.setCell ⟨w.heap.size+1,0,none⟩ x).setCell ⟨w.heap.size+1,1,none⟩ y):=by
 have hO2:Only (fun q=>q=w.heap.size+1) w1 ((w1.setCell ⟨w.heap.size+1,0,none⟩ x).setCell ⟨w.heap.size+1,1,none⟩ y):=
  ⟨rfl,rfl,rfl,by simp [World.setCell],fun q _ hq=>(Below.heap_setCell _ _ _ _ hq).trans (Below.heap_setCell _ _ _ _ hq)⟩
 have h2:=h.only hO2 (fun q hq _ e=>by have e':q=w.heap.size+1:=e;omega)
 have hs:((w1.setCell ⟨w.heap.size+1,0,none⟩ x).setCell ⟨w.heap.size+1,1,none⟩ y).heap.size=w1.heap.size:=by simp [World.setCell]
 exact ⟨(hb.setCell (p:=⟨w.heap.size+1,0,none⟩) (by simp) _).setCell (p:=⟨w.heap.size+1,1,none⟩) (by simp) _,A,cp,rfl,RT.lowerR h2 (by omega) (by rw [hs];exact Nat.le_refl _)⟩
end
end Go.Proofs.YtgfkglhelfkpoaaGreat
