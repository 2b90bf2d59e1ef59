/- Texts put together: WDerI, WDerB. -/
import Derived.Test.YtgfkglhelfkpoaaGreatRSF
import Derived.Test.YtgfkglhelfkpoaaGreatRSE
import Derived.Test.YtgfkglhelfkpoaaGreatRY
import Derived.Test.YtgfkglhelfkpoaaGreatRB
set_option maxRecDepth 100000
set_option maxHeartbeats 1000000
namespace Go.Proofs.YtgfkglhelfkpoaaGreat
section
open Go.RowKit Plain
theorem TRow.rowO {w:World} {B n cap:Nat} {A:Option Addr} {ts:List Term'} (h:TRow w B (.slice A ts.length cap) ts) (hn:LenT n ts):RowO w w.heap.size A n ts:=fun h0=>by
 obtain ⟨us,h⟩:=h
 obtain ⟨g,c,hv,hg1,hg2⟩:=World.ownsRow.form h.own h0
 have hA:A=some ⟨g,0,none⟩:=by injection hv
 have hc:cap=c:=by injection hv
 subst hA;subst hc
 have hgt:=own2_typed h.own (g:=g) rfl
 refine ⟨g,rfl,hg2,fun i t ht=>?_⟩
 have hi:i<ts.length:=(List.getElem?_eq_some_iff.1 ht).1
 obtain ⟨x,hx⟩:∃ x,us[i]? = some x:=⟨us[i]'(by rw [h.len];exact hi),List.getElem?_eq_getElem (by rw [h.len];exact hi)⟩
 obtain ⟨h1,h2⟩:=h.row i _ t hx ht
 obtain ⟨Ai,ca,hu⟩:=h2.form
 have hcg:=cellsT_get (l:=us) (i:=i) (u:=x.1) (c:=x.2) hx
 have c0:=(World.ownsRow.cellAt h.own (i*2) (by omega)).trans hcg.1
 have c1:=(World.ownsRow.cellAt h.own (i*2+1) (by omega)).trans hcg.2
 rw [hu] at c0 h2
 rw [h1] at c1
 refine ⟨Ai,ca,by rw [Nat.zero_add];exact c0,by rw [Nat.zero_add];exact c1,World.ownsRow.frozenAt h.own _,World.ownsRow.frozenAt h.own _,h2.intsM.ints,fun q hq=>?_,hn t (List.mem_of_getElem? ht)⟩
 obtain ⟨hq0,oq,e⟩:=hq
 have e':Ai=some ⟨q,oq,none⟩:=e
 exact (own_typed h2 (g:=q) (by rw [e'];rfl)).ne hgt (by decide)
structure LSt (w0:World) (B n:Nat) (L:List Term') (m cp:Nat) (A:Option Addr) (wr:World):Prop where
 len:L.length=m
 row:TRow wr B (.slice A m cp) L
 lenT:LenT n L
 below:Below w0.heap.size w0 wr
 B0:w0.heap.size≤B
 B1:B≤wr.heap.size
theorem LSt.next {w0 wr w1:World} {B n m cp:Nat} {L:List Term'} {A:Option Addr} (h:LSt w0 B n L m cp A wr) (hb:Below wr.heap.size wr w1):LSt w0 B n L m cp A w1:=
 ⟨h.len,h.row.below hb,h.lenT,bnext h.below hb,h.B0,Nat.le_trans h.B1 hb.size⟩
theorem LSt.push {w0 wr w1 w2:World} {B n m cp:Nat} {L:List Term'} {A:Option Addr} {v2 u:Value} {E:List Int} {c:Int} {us:List (Value×Int)} (h:LSt w0 B n L m cp A wr) (hp:TParts wr B (.slice A m cp) L us) (hE:E.length=n)
  (hb:Below wr.heap.size wr w1) (hu:IntRow w1 wr.heap.size u E) (hown:w2.ownsRow B 173 2 v2 (m+1) (cellsT us++[u,.int .i64 c])) (hg:w1.grownBy w2 (Value.slice A m cp).ownBlock) :
  ∃ A2 c2,v2=.slice A2 (m+1) c2∧LSt w0 B n (L++[(E,c)]) (m+1) c2 A2 w2:=by
 have hl:=h.len
 subst hl
 obtain ⟨h1,h2⟩:=TParts.push (t:=(E,c)) hp h.B1 hb hu hown hg
 obtain ⟨A2,c2,hv⟩:=h1.form
 have hv':v2=.slice A2 (L.length+1) c2:=by rw [hv];simp
 subst hv'
 refine ⟨A2,c2,rfl,by simp,h1,fun t ht=>?_,h.below.trans (h2.mono h.B0),h.B0,Nat.le_trans h.B1 h2.size⟩
 rcases List.mem_append.1 ht with ht | ht
 ·exact h.lenT t ht
 ·simp at ht;rw [ht];exact hE
end
section
open Plain
theorem nfT_spec (L:List Term'):(∀ t∈nfT L,∃ u∈L,u.1=t.1)∧(nfT L).length≤L.length:=by
 by_cases hx:∃ R,Canon R∧∀ e,cof R e=cof L e
 ·obtain ⟨R,h1,h2⟩:=hx
  have hn:=nfT_eq h1 h2
  rw [←hn]
  refine ⟨fun t ht=>h1.stems h2 ht, ?_⟩
  have hsub:∀ (R:List Term'),R.Pairwise (fun s t=>cmpL s.1 t.1<0)→∀ (K:List (List Int)),(∀ t∈R,t.1∈K)→R.length≤K.length:=by
   intro R
   induction R with
   | nil=>intro _ K _;simp
   | cons t R ih=>
    intro hp K hK
    have hp':=List.pairwise_cons.1 hp
    have hm:=hK t (List.mem_cons_self ..)
    have h3:=ih hp'.2 (K.erase t.1) (fun s hs=>by
     have hne:s.1≠t.1:=(lt_ne (hp'.1 s hs)).symm
     exact (List.mem_erase_of_ne hne).2 (hK s (List.mem_cons_of_mem _ hs)))
    rw [List.length_erase_of_mem hm] at h3
    have:0<K.length:=List.length_pos_of_mem hm
    simp only [List.length_cons]
    omega
  have:=hsub R h1.asc (L.map (·.1)) (fun t ht=>by
   obtain ⟨u,hu,e⟩:=h1.stems h2 ht
   exact List.mem_map.2 ⟨u,hu,e⟩)
  simpa using this
 ·have:nfT L=[]:=by unfold nfT;rw [dif_neg hx]
  rw [this];simp
theorem totT_le_mul {n:Nat} {ts:List Term'} (h:LenT n ts):totT ts≤ts.length*n:=by
 induction ts with
 | nil=>simp [totT,tot]
 | cons t r ih=>
  have h1:=h t (List.mem_cons_self ..)
  have h2:=ih fun s hs=>h s (List.mem_cons_of_mem _ hs)
  rw [totT_cons,List.length_cons,Nat.add_mul,Nat.one_mul,h1]
  omega
end
end Go.Proofs.YtgfkglhelfkpoaaGreat
