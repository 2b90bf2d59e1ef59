/- Texts put together: WRuleL2. -/
import Derived.Test.YtgfkglhelfkpoaaGreatRSP
set_option maxRecDepth 100000
set_option maxHeartbeats 4000000
open Go.Lib (hid)
namespace Go.Proofs.YtgfkglhelfkpoaaGreat
section
open Go.RowKit Plain
theorem toRule_any (v:Int) (l r:Nd) (KL KR:Option Addr) (cl cr B:Nat) (w:World) (hL:ExSl w B l.ks KL) (hR:ExSl w B r.ks KR) (hB:B≤w.heap.size) (hl:l.ks.size≤1048576) (hr:r.ks.size≤1048576) :
  Calls Tryz.prog 12 #[ruV v l KL cl r KR cr] w fun e w'=>∃ g1 g2,e=.returned (ruV v l (some ⟨g1,0,none⟩) l.ks.len r (some ⟨g2,0,none⟩) r.ks.len)∧RulR (w.heap.size+3) w'.heap.size l r g1 g2 w'∧Below w.heap.size w w':=by
 go_enter Tryz.func12,Tryz.ntmps12
 go_wp2_with fail
 obtain ⟨hsz,hC1,hC2,hb0⟩:=allocs3 w (.cells #[.int .i64 v,.int .i64 l.k,.int .i64 l.n,.int .i64 l.p,.int .i64 l.c,.slice KL l.ks.len cl,.int .i64 r.k,.int .i64 r.n,.int .i64 r.p,.int .i64 r.c,.slice KR r.ks.len cr] 26) 35 35 [.int .i64 0,.int .i64 0,.int .i64 0,.int .i64 0,.int .i64 0,.slice none 0 0,.int .i64 0,.int .i64 0,.int .i64 0,.int .i64 0,.slice none 0 0] [.int .i64 v,.int .i64 0,.int .i64 0,.int .i64 0,.int .i64 0,.slice none 0 0,.int .i64 0,.int .i64 0,.int .i64 0,.int .i64 0,.slice none 0 0]
 have hC0:Cells (((w.alloc (.cells #[.int .i64 v,.int .i64 l.k,.int .i64 l.n,.int .i64 l.p,.int .i64 l.c,.slice KL l.ks.len cl,.int .i64 r.k,.int .i64 r.n,.int .i64 r.p,.int .i64 r.c,.slice KR r.ks.len cr] 26)).alloc (.cells #[.int .i64 0,.int .i64 0,.int .i64 0,.int .i64 0,.int .i64 0,.slice none 0 0,.int .i64 0,.int .i64 0,.int .i64 0,.int .i64 0,.slice none 0 0] 35)).alloc (.cells #[.int .i64 v,.int .i64 0,.int .i64 0,.int .i64 0,.int .i64 0,.slice none 0 0,.int .i64 0,.int .i64 0,.int .i64 0,.int .i64 0,.slice none 0 0] 35)) w.heap.size 26 [.int .i64 v,.int .i64 l.k,.int .i64 l.n,.int .i64 l.p,.int .i64 l.c,.slice KL l.ks.len cl,.int .i64 r.k,.int .i64 r.n,.int .i64 r.p,.int .i64 r.c,.slice KR r.ks.len cr]:=((Cells.new w 26 [.int .i64 v,.int .i64 l.k,.int .i64 l.n,.int .i64 l.p,.int .i64 l.c,.slice KL l.ks.len cl,.int .i64 r.k,.int .i64 r.n,.int .i64 r.p,.int .i64 r.c,.slice KR r.ks.len cr]).next (w':=(w.alloc (.cells #[.int .i64 v,.int .i64 l.k,.int .i64 l.n,.int .i64 l.p,.int .i64 l.c,.slice KL l.ks.len cl,.int .i64 r.k,.int .i64 r.n,.int .i64 r.p,.int .i64 r.c,.slice KR r.ks.len cr] 26)).alloc (.cells #[.int .i64 0,.int .i64 0,.int .i64 0,.int .i64 0,.int .i64 0,.slice none 0 0,.int .i64 0,.int .i64 0,.int .i64 0,.int .i64 0,.slice none 0 0] 35)) (by go_grown)).next (by go_grown)
 generalize (((w.alloc (.cells #[.int .i64 v,.int .i64 l.k,.int .i64 l.n,.int .i64 l.p,.int .i64 l.c,.slice KL l.ks.len cl,.int .i64 r.k,.int .i64 r.n,.int .i64 r.p,.int .i64 r.c,.slice KR r.ks.len cr] 26)).alloc (.cells #[.int .i64 0,.int .i64 0,.int .i64 0,.int .i64 0,.int .i64 0,.slice none 0 0,.int .i64 0,.int .i64 0,.int .i64 0,.int .i64 0,.slice none 0 0] 35)).alloc (.cells #[.int .i64 v,.int .i64 0,.int .i64 0,.int .i64 0,.int .i64 0,.slice none 0 0,.int .i64 0,.int .i64 0,.int .i64 0,.int .i64 0,.slice none 0 0] 35))=W3 at hsz hb0 hC0 hC1 hC2 ⊢
 refine (toExpr_of (toExprS_all l.ks hl) l.k l.n l.p l.c KL cl B W3 (hL.below (hb0.mono hB)) (by omega)).mono ?_;rintro e w1 ⟨g1,hg1,hg1',rfl,hM1,hb1⟩
 have hD0:=hC0.next hb1
 have hE1:=hC1.next hb1
 have hE2:=hC2.next hb1
 clear hC0 hC1 hC2
 have q0:w1.cell? ⟨w.heap.size,0,none⟩=some (.int .i64 v):=by rw [hD0.cell];rfl
 have q1:w1.cell? ⟨w.heap.size,1,none⟩=some (.int .i64 l.k):=by rw [hD0.cell];rfl
 have q2:w1.cell? ⟨w.heap.size,2,none⟩=some (.int .i64 l.n):=by rw [hD0.cell];rfl
 have q3:w1.cell? ⟨w.heap.size,3,none⟩=some (.int .i64 l.p):=by rw [hD0.cell];rfl
 have q4:w1.cell? ⟨w.heap.size,4,none⟩=some (.int .i64 l.c):=by rw [hD0.cell];rfl
 have q5:w1.cell? ⟨w.heap.size,5,none⟩=some (.slice KL l.ks.len cl):=by rw [hD0.cell];rfl
 have q6:w1.cell? ⟨w.heap.size,6,none⟩=some (.int .i64 r.k):=by rw [hD0.cell];rfl
 have q7:w1.cell? ⟨w.heap.size,7,none⟩=some (.int .i64 r.n):=by rw [hD0.cell];rfl
 have q8:w1.cell? ⟨w.heap.size,8,none⟩=some (.int .i64 r.p):=by rw [hD0.cell];rfl
 have q9:w1.cell? ⟨w.heap.size,9,none⟩=some (.int .i64 r.c):=by rw [hD0.cell];rfl
 have q10:w1.cell? ⟨w.heap.size,10,none⟩=some (.slice KR r.ks.len cr):=by rw [hD0.cell];rfl
 have k1:w1.cell? ⟨w.heap.size+1+1,1,none⟩=some (.int .i64 0):=by rw [hE2.cell];rfl
 have f1:w1.frozen? ⟨w.heap.size+1+1,1,none⟩=false:=hE2.frozen _
 have k2:w1.cell? ⟨w.heap.size+1+1,2,none⟩=some (.int .i64 0):=by rw [hE2.cell];rfl
 have f2:w1.frozen? ⟨w.heap.size+1+1,2,none⟩=false:=hE2.frozen _
 have k3:w1.cell? ⟨w.heap.size+1+1,3,none⟩=some (.int .i64 0):=by rw [hE2.cell];rfl
 have f3:w1.frozen? ⟨w.heap.size+1+1,3,none⟩=false:=hE2.frozen _
 have k4:w1.cell? ⟨w.heap.size+1+1,4,none⟩=some (.int .i64 0):=by rw [hE2.cell];rfl
 have f4:w1.frozen? ⟨w.heap.size+1+1,4,none⟩=false:=hE2.frozen _
 have k5:w1.cell? ⟨w.heap.size+1+1,5,none⟩=some (.slice none 0 0):=by rw [hE2.cell];rfl
 have f5:w1.frozen? ⟨w.heap.size+1+1,5,none⟩=false:=hE2.frozen _
 go_upto_region 4 with fail
 have e4:(((((w1.setCell ⟨w.heap.size+1+1,1,none⟩ (.int .i64 l.k)).setCell ⟨w.heap.size+1+1,2,none⟩ (.int .i64 l.n)).setCell ⟨w.heap.size+1+1,3,none⟩ (.int .i64 l.p)).setCell ⟨w.heap.size+1+1,4,none⟩ (.int .i64 l.c)).setCell ⟨w.heap.size+1+1,5,none⟩ (.slice (some ⟨g1,0,none⟩) l.ks.len l.ks.len))=(set5 w1 (w.heap.size+1+1) 1 l.k l.n l.p l.c (.slice (some ⟨g1,0,none⟩) l.ks.len l.ks.len)):=rfl
 have hs4:(((((w1.setCell ⟨w.heap.size+1+1,1,none⟩ (.int .i64 l.k)).setCell ⟨w.heap.size+1+1,2,none⟩ (.int .i64 l.n)).setCell ⟨w.heap.size+1+1,3,none⟩ (.int .i64 l.p)).setCell ⟨w.heap.size+1+1,4,none⟩ (.int .i64 l.c)).setCell ⟨w.heap.size+1+1,5,none⟩ (.slice (some ⟨g1,0,none⟩) l.ks.len l.ks.len)).heap.size=w1.heap.size:=by rw [e4];exact set5_size ..
 have hb4:∀ q,q≠w.heap.size+1+1→(((((w1.setCell ⟨w.heap.size+1+1,1,none⟩ (.int .i64 l.k)).setCell ⟨w.heap.size+1+1,2,none⟩ (.int .i64 l.n)).setCell ⟨w.heap.size+1+1,3,none⟩ (.int .i64 l.p)).setCell ⟨w.heap.size+1+1,4,none⟩ (.int .i64 l.c)).setCell ⟨w.heap.size+1+1,5,none⟩ (.slice (some ⟨g1,0,none⟩) l.ks.len l.ks.len)).heap[q]? = w1.heap[q]?:=fun q hq=>by rw [e4];exact set5_block _ _ _ _ _ hq
 have hF2:Cells (((((w1.setCell ⟨w.heap.size+1+1,1,none⟩ (.int .i64 l.k)).setCell ⟨w.heap.size+1+1,2,none⟩ (.int .i64 l.n)).setCell ⟨w.heap.size+1+1,3,none⟩ (.int .i64 l.p)).setCell ⟨w.heap.size+1+1,4,none⟩ (.int .i64 l.c)).setCell ⟨w.heap.size+1+1,5,none⟩ (.slice (some ⟨g1,0,none⟩) l.ks.len l.ks.len)) (w.heap.size+1+1) 35 [.int .i64 v,.int .i64 l.k,.int .i64 l.n,.int .i64 l.p,.int .i64 l.c,.slice (some ⟨g1,0,none⟩) l.ks.len l.ks.len,.int .i64 0,.int .i64 0,.int .i64 0,.int .i64 0,.slice none 0 0]:=set5_cells (o:=1) hE2 l.k l.n l.p l.c (.slice (some ⟨g1,0,none⟩) l.ks.len l.ks.len)
 have hF0:Cells (((((w1.setCell ⟨w.heap.size+1+1,1,none⟩ (.int .i64 l.k)).setCell ⟨w.heap.size+1+1,2,none⟩ (.int .i64 l.n)).setCell ⟨w.heap.size+1+1,3,none⟩ (.int .i64 l.p)).setCell ⟨w.heap.size+1+1,4,none⟩ (.int .i64 l.c)).setCell ⟨w.heap.size+1+1,5,none⟩ (.slice (some ⟨g1,0,none⟩) l.ks.len l.ks.len)) w.heap.size 26 [.int .i64 v,.int .i64 l.k,.int .i64 l.n,.int .i64 l.p,.int .i64 l.c,.slice KL l.ks.len cl,.int .i64 r.k,.int .i64 r.n,.int .i64 r.p,.int .i64 r.c,.slice KR r.ks.len cr]:=(((((hD0.far (p:=⟨w.heap.size+1+1,1,none⟩) (by (try dsimp only);omega) (.int .i64 l.k)).far (p:=⟨w.heap.size+1+1,2,none⟩) (by (try dsimp only);omega) (.int .i64 l.n)).far (p:=⟨w.heap.size+1+1,3,none⟩) (by (try dsimp only);omega) (.int .i64 l.p)).far (p:=⟨w.heap.size+1+1,4,none⟩) (by (try dsimp only);omega) (.int .i64 l.c)).far (p:=⟨w.heap.size+1+1,5,none⟩) (by (try dsimp only);omega) (.slice (some ⟨g1,0,none⟩) l.ks.len l.ks.len))
 have hF1:Cells (((((w1.setCell ⟨w.heap.size+1+1,1,none⟩ (.int .i64 l.k)).setCell ⟨w.heap.size+1+1,2,none⟩ (.int .i64 l.n)).setCell ⟨w.heap.size+1+1,3,none⟩ (.int .i64 l.p)).setCell ⟨w.heap.size+1+1,4,none⟩ (.int .i64 l.c)).setCell ⟨w.heap.size+1+1,5,none⟩ (.slice (some ⟨g1,0,none⟩) l.ks.len l.ks.len)) (w.heap.size+1) 35 [.int .i64 0,.int .i64 0,.int .i64 0,.int .i64 0,.int .i64 0,.slice none 0 0,.int .i64 0,.int .i64 0,.int .i64 0,.int .i64 0,.slice none 0 0]:=(((((hE1.far (p:=⟨w.heap.size+1+1,1,none⟩) (by (try dsimp only);omega) (.int .i64 l.k)).far (p:=⟨w.heap.size+1+1,2,none⟩) (by (try dsimp only);omega) (.int .i64 l.n)).far (p:=⟨w.heap.size+1+1,3,none⟩) (by (try dsimp only);omega) (.int .i64 l.p)).far (p:=⟨w.heap.size+1+1,4,none⟩) (by (try dsimp only);omega) (.int .i64 l.c)).far (p:=⟨w.heap.size+1+1,5,none⟩) (by (try dsimp only);omega) (.slice (some ⟨g1,0,none⟩) l.ks.len l.ks.len))
 have hB4:Below w.heap.size w (((((w1.setCell ⟨w.heap.size+1+1,1,none⟩ (.int .i64 l.k)).setCell ⟨w.heap.size+1+1,2,none⟩ (.int .i64 l.n)).setCell ⟨w.heap.size+1+1,3,none⟩ (.int .i64 l.p)).setCell ⟨w.heap.size+1+1,4,none⟩ (.int .i64 l.c)).setCell ⟨w.heap.size+1+1,5,none⟩ (.slice (some ⟨g1,0,none⟩) l.ks.len l.ks.len)):=((((((hb0.trans (hb1.mono (by omega))).setCell (p:=⟨w.heap.size+1+1,1,none⟩) (by simp;omega) (.int .i64 l.k)).setCell (p:=⟨w.heap.size+1+1,2,none⟩) (by simp;omega) (.int .i64 l.n)).setCell (p:=⟨w.heap.size+1+1,3,none⟩) (by simp;omega) (.int .i64 l.p)).setCell (p:=⟨w.heap.size+1+1,4,none⟩) (by simp;omega) (.int .i64 l.c)).setCell (p:=⟨w.heap.size+1+1,5,none⟩) (by simp;omega) (.slice (some ⟨g1,0,none⟩) l.ks.len l.ks.len))
 clear e4 hD0 hE1 hE2 q0 q1 q2 q3 q4 q5 q6 q7 q8 q9 q10 k1 f1 k2 f2 k3 f3 k4 f4 k5 f5
 generalize (((((w1.setCell ⟨w.heap.size+1+1,1,none⟩ (.int .i64 l.k)).setCell ⟨w.heap.size+1+1,2,none⟩ (.int .i64 l.n)).setCell ⟨w.heap.size+1+1,3,none⟩ (.int .i64 l.p)).setCell ⟨w.heap.size+1+1,4,none⟩ (.int .i64 l.c)).setCell ⟨w.heap.size+1+1,5,none⟩ (.slice (some ⟨g1,0,none⟩) l.ks.len l.ks.len))=W4 at hs4 hb4 hF0 hF1 hF2 hB4 ⊢
 have q0:W4.cell? ⟨w.heap.size,0,none⟩=some (.int .i64 v):=by rw [hF0.cell];rfl
 have q1:W4.cell? ⟨w.heap.size,1,none⟩=some (.int .i64 l.k):=by rw [hF0.cell];rfl
 have q2:W4.cell? ⟨w.heap.size,2,none⟩=some (.int .i64 l.n):=by rw [hF0.cell];rfl
 have q3:W4.cell? ⟨w.heap.size,3,none⟩=some (.int .i64 l.p):=by rw [hF0.cell];rfl
 have q4:W4.cell? ⟨w.heap.size,4,none⟩=some (.int .i64 l.c):=by rw [hF0.cell];rfl
 have q5:W4.cell? ⟨w.heap.size,5,none⟩=some (.slice KL l.ks.len cl):=by rw [hF0.cell];rfl
 have q6:W4.cell? ⟨w.heap.size,6,none⟩=some (.int .i64 r.k):=by rw [hF0.cell];rfl
 have q7:W4.cell? ⟨w.heap.size,7,none⟩=some (.int .i64 r.n):=by rw [hF0.cell];rfl
 have q8:W4.cell? ⟨w.heap.size,8,none⟩=some (.int .i64 r.p):=by rw [hF0.cell];rfl
 have q9:W4.cell? ⟨w.heap.size,9,none⟩=some (.int .i64 r.c):=by rw [hF0.cell];rfl
 have q10:W4.cell? ⟨w.heap.size,10,none⟩=some (.slice KR r.ks.len cr):=by rw [hF0.cell];rfl
 have HC2:=hid (toExpr_of (toExprS_all r.ks hr) r.k r.n r.p r.c KR cr B W4 (hR.below (hB4.mono hB)) (by omega))
 have HF:=hid (And.intro hs4 hb4);clear hs4 hb4
 have HM1:=hid hM1;clear hM1
 have HB4:=hid hB4;clear hB4
 have HG1:Hid (w.heap.size+3≤g1∧g1<w1.heap.size):=by show _∧_;omega
 have HS1:Hid (w.heap.size+3≤w1.heap.size):=by show _≤_;have:=hb1.size;omega
 clear hb0 hb1 hg1 hg1' hsz hL hR hF0
 go_wp2_with fail
 refine HC2.out.mono ?_;rintro e w2 ⟨g2,hg2,hg2',rfl,hM2,hb2⟩
 have hI1:=hF1.next hb2
 have hI2:=hF2.next hb2
 clear hF1 hF2 q0 q1 q2 q3 q4 q5 q6 q7 q8 q9 q10
 have k6:w2.cell? ⟨w.heap.size+1+1,6,none⟩=some (.int .i64 0):=by rw [hI2.cell];rfl
 have f6:w2.frozen? ⟨w.heap.size+1+1,6,none⟩=false:=hI2.frozen _
 have k7:w2.cell? ⟨w.heap.size+1+1,7,none⟩=some (.int .i64 0):=by rw [hI2.cell];rfl
 have f7:w2.frozen? ⟨w.heap.size+1+1,7,none⟩=false:=hI2.frozen _
 have k8:w2.cell? ⟨w.heap.size+1+1,8,none⟩=some (.int .i64 0):=by rw [hI2.cell];rfl
 have f8:w2.frozen? ⟨w.heap.size+1+1,8,none⟩=false:=hI2.frozen _
 have k9:w2.cell? ⟨w.heap.size+1+1,9,none⟩=some (.int .i64 0):=by rw [hI2.cell];rfl
 have f9:w2.frozen? ⟨w.heap.size+1+1,9,none⟩=false:=hI2.frozen _
 have k10:w2.cell? ⟨w.heap.size+1+1,10,none⟩=some (.slice none 0 0):=by rw [hI2.cell];rfl
 have f10:w2.frozen? ⟨w.heap.size+1+1,10,none⟩=false:=hI2.frozen _
 have e5:(((((w2.setCell ⟨w.heap.size+1+1,6,none⟩ (.int .i64 r.k)).setCell ⟨w.heap.size+1+1,7,none⟩ (.int .i64 r.n)).setCell ⟨w.heap.size+1+1,8,none⟩ (.int .i64 r.p)).setCell ⟨w.heap.size+1+1,9,none⟩ (.int .i64 r.c)).setCell ⟨w.heap.size+1+1,10,none⟩ (.slice (some ⟨g2,0,none⟩) r.ks.len r.ks.len))=(set5 w2 (w.heap.size+1+1) 6 r.k r.n r.p r.c (.slice (some ⟨g2,0,none⟩) r.ks.len r.ks.len)):=rfl
 have hs5:(((((w2.setCell ⟨w.heap.size+1+1,6,none⟩ (.int .i64 r.k)).setCell ⟨w.heap.size+1+1,7,none⟩ (.int .i64 r.n)).setCell ⟨w.heap.size+1+1,8,none⟩ (.int .i64 r.p)).setCell ⟨w.heap.size+1+1,9,none⟩ (.int .i64 r.c)).setCell ⟨w.heap.size+1+1,10,none⟩ (.slice (some ⟨g2,0,none⟩) r.ks.len r.ks.len)).heap.size=w2.heap.size:=by rw [e5];exact set5_size ..
 have hb5:∀ q,q≠w.heap.size+1+1→(((((w2.setCell ⟨w.heap.size+1+1,6,none⟩ (.int .i64 r.k)).setCell ⟨w.heap.size+1+1,7,none⟩ (.int .i64 r.n)).setCell ⟨w.heap.size+1+1,8,none⟩ (.int .i64 r.p)).setCell ⟨w.heap.size+1+1,9,none⟩ (.int .i64 r.c)).setCell ⟨w.heap.size+1+1,10,none⟩ (.slice (some ⟨g2,0,none⟩) r.ks.len r.ks.len)).heap[q]? = w2.heap[q]?:=fun q hq=>by rw [e5];exact set5_block _ _ _ _ _ hq
 have hK2:Cells (((((w2.setCell ⟨w.heap.size+1+1,6,none⟩ (.int .i64 r.k)).setCell ⟨w.heap.size+1+1,7,none⟩ (.int .i64 r.n)).setCell ⟨w.heap.size+1+1,8,none⟩ (.int .i64 r.p)).setCell ⟨w.heap.size+1+1,9,none⟩ (.int .i64 r.c)).setCell ⟨w.heap.size+1+1,10,none⟩ (.slice (some ⟨g2,0,none⟩) r.ks.len r.ks.len)) (w.heap.size+1+1) 35 [.int .i64 v,.int .i64 l.k,.int .i64 l.n,.int .i64 l.p,.int .i64 l.c,.slice (some ⟨g1,0,none⟩) l.ks.len l.ks.len,.int .i64 r.k,.int .i64 r.n,.int .i64 r.p,.int .i64 r.c,.slice (some ⟨g2,0,none⟩) r.ks.len r.ks.len]:=set5_cells (o:=6) hI2 r.k r.n r.p r.c (.slice (some ⟨g2,0,none⟩) r.ks.len r.ks.len)
 have hK1:Cells (((((w2.setCell ⟨w.heap.size+1+1,6,none⟩ (.int .i64 r.k)).setCell ⟨w.heap.size+1+1,7,none⟩ (.int .i64 r.n)).setCell ⟨w.heap.size+1+1,8,none⟩ (.int .i64 r.p)).setCell ⟨w.heap.size+1+1,9,none⟩ (.int .i64 r.c)).setCell ⟨w.heap.size+1+1,10,none⟩ (.slice (some ⟨g2,0,none⟩) r.ks.len r.ks.len)) (w.heap.size+1) 35 [.int .i64 0,.int .i64 0,.int .i64 0,.int .i64 0,.int .i64 0,.slice none 0 0,.int .i64 0,.int .i64 0,.int .i64 0,.int .i64 0,.slice none 0 0]:=(((((hI1.far (p:=⟨w.heap.size+1+1,6,none⟩) (by (try dsimp only);omega) (.int .i64 r.k)).far (p:=⟨w.heap.size+1+1,7,none⟩) (by (try dsimp only);omega) (.int .i64 r.n)).far (p:=⟨w.heap.size+1+1,8,none⟩) (by (try dsimp only);omega) (.int .i64 r.p)).far (p:=⟨w.heap.size+1+1,9,none⟩) (by (try dsimp only);omega) (.int .i64 r.c)).far (p:=⟨w.heap.size+1+1,10,none⟩) (by (try dsimp only);omega) (.slice (some ⟨g2,0,none⟩) r.ks.len r.ks.len))
 have hB5:Below w.heap.size w (((((w2.setCell ⟨w.heap.size+1+1,6,none⟩ (.int .i64 r.k)).setCell ⟨w.heap.size+1+1,7,none⟩ (.int .i64 r.n)).setCell ⟨w.heap.size+1+1,8,none⟩ (.int .i64 r.p)).setCell ⟨w.heap.size+1+1,9,none⟩ (.int .i64 r.c)).setCell ⟨w.heap.size+1+1,10,none⟩ (.slice (some ⟨g2,0,none⟩) r.ks.len r.ks.len)):=((((((HB4.out.trans (hb2.mono (by have:=HB4.out.size;omega))).setCell (p:=⟨w.heap.size+1+1,6,none⟩) (by simp;omega) (.int .i64 r.k)).setCell (p:=⟨w.heap.size+1+1,7,none⟩) (by simp;omega) (.int .i64 r.n)).setCell (p:=⟨w.heap.size+1+1,8,none⟩) (by simp;omega) (.int .i64 r.p)).setCell (p:=⟨w.heap.size+1+1,9,none⟩) (by simp;omega) (.int .i64 r.c)).setCell (p:=⟨w.heap.size+1+1,10,none⟩) (by simp;omega) (.slice (some ⟨g2,0,none⟩) r.ks.len r.ks.len))
 have HM2:=hid hM2
 have HB2:=hid hb2
 have HG2:=hid (And.intro hg2 hg2')
 clear hM2 hb2 hg2 hg2' hI1 hI2 e5
 go_upto_region 5 with fail
 generalize (((((w2.setCell ⟨w.heap.size+1+1,6,none⟩ (.int .i64 r.k)).setCell ⟨w.heap.size+1+1,7,none⟩ (.int .i64 r.n)).setCell ⟨w.heap.size+1+1,8,none⟩ (.int .i64 r.p)).setCell ⟨w.heap.size+1+1,9,none⟩ (.int .i64 r.c)).setCell ⟨w.heap.size+1+1,10,none⟩ (.slice (some ⟨g2,0,none⟩) r.ks.len r.ks.len))=W5 at hs5 hb5 hK1 hK2 hB5 ⊢
 have k0':W5.cell? ⟨w.heap.size+1+1,0,none⟩=some (.int .i64 v):=by rw [hK2.cell];rfl
 have j0:W5.cell? ⟨w.heap.size+1,0,none⟩=some (.int .i64 0):=by rw [hK1.cell];rfl
 have g0':W5.frozen? ⟨w.heap.size+1,0,none⟩=false:=hK1.frozen _
 have k1':W5.cell? ⟨w.heap.size+1+1,1,none⟩=some (.int .i64 l.k):=by rw [hK2.cell];rfl
 have j1:W5.cell? ⟨w.heap.size+1,1,none⟩=some (.int .i64 0):=by rw [hK1.cell];rfl
 have g1':W5.frozen? ⟨w.heap.size+1,1,none⟩=false:=hK1.frozen _
 have k2':W5.cell? ⟨w.heap.size+1+1,2,none⟩=some (.int .i64 l.n):=by rw [hK2.cell];rfl
 have j2:W5.cell? ⟨w.heap.size+1,2,none⟩=some (.int .i64 0):=by rw [hK1.cell];rfl
 have g2':W5.frozen? ⟨w.heap.size+1,2,none⟩=false:=hK1.frozen _
 have k3':W5.cell? ⟨w.heap.size+1+1,3,none⟩=some (.int .i64 l.p):=by rw [hK2.cell];rfl
 have j3:W5.cell? ⟨w.heap.size+1,3,none⟩=some (.int .i64 0):=by rw [hK1.cell];rfl
 have g3':W5.frozen? ⟨w.heap.size+1,3,none⟩=false:=hK1.frozen _
 have k4':W5.cell? ⟨w.heap.size+1+1,4,none⟩=some (.int .i64 l.c):=by rw [hK2.cell];rfl
 have j4:W5.cell? ⟨w.heap.size+1,4,none⟩=some (.int .i64 0):=by rw [hK1.cell];rfl
 have g4':W5.frozen? ⟨w.heap.size+1,4,none⟩=false:=hK1.frozen _
 have k5':W5.cell? ⟨w.heap.size+1+1,5,none⟩=some (.slice (some ⟨g1,0,none⟩) l.ks.len l.ks.len):=by rw [hK2.cell];rfl
 have j5:W5.cell? ⟨w.heap.size+1,5,none⟩=some (.slice none 0 0):=by rw [hK1.cell];rfl
 have g5':W5.frozen? ⟨w.heap.size+1,5,none⟩=false:=hK1.frozen _
 have k6':W5.cell? ⟨w.heap.size+1+1,6,none⟩=some (.int .i64 r.k):=by rw [hK2.cell];rfl
 have j6:W5.cell? ⟨w.heap.size+1,6,none⟩=some (.int .i64 0):=by rw [hK1.cell];rfl
 have g6':W5.frozen? ⟨w.heap.size+1,6,none⟩=false:=hK1.frozen _
 have k7':W5.cell? ⟨w.heap.size+1+1,7,none⟩=some (.int .i64 r.n):=by rw [hK2.cell];rfl
 have j7:W5.cell? ⟨w.heap.size+1,7,none⟩=some (.int .i64 0):=by rw [hK1.cell];rfl
 have g7':W5.frozen? ⟨w.heap.size+1,7,none⟩=false:=hK1.frozen _
 have k8':W5.cell? ⟨w.heap.size+1+1,8,none⟩=some (.int .i64 r.p):=by rw [hK2.cell];rfl
 have j8:W5.cell? ⟨w.heap.size+1,8,none⟩=some (.int .i64 0):=by rw [hK1.cell];rfl
 have g8':W5.frozen? ⟨w.heap.size+1,8,none⟩=false:=hK1.frozen _
 have k9':W5.cell? ⟨w.heap.size+1+1,9,none⟩=some (.int .i64 r.c):=by rw [hK2.cell];rfl
 have j9:W5.cell? ⟨w.heap.size+1,9,none⟩=some (.int .i64 0):=by rw [hK1.cell];rfl
 have g9':W5.frozen? ⟨w.heap.size+1,9,none⟩=false:=hK1.frozen _
 have k10':W5.cell? ⟨w.heap.size+1+1,10,none⟩=some (.slice (some ⟨g2,0,none⟩) r.ks.len r.ks.len):=by rw [hK2.cell];rfl
 have j10:W5.cell? ⟨w.heap.size+1,10,none⟩=some (.slice none 0 0):=by rw [hK1.cell];rfl
 have g10':W5.frozen? ⟨w.heap.size+1,10,none⟩=false:=hK1.frozen _
 have hJ0:=hK1
 have hJ1:=hJ0.set_ 0 (.int .i64 v)
 have hJ2:=hJ1.set_ 1 (.int .i64 l.k)
 have hJ3:=hJ2.set_ 2 (.int .i64 l.n)
 have hJ4:=hJ3.set_ 3 (.int .i64 l.p)
 have hJ5:=hJ4.set_ 4 (.int .i64 l.c)
 have hJ6:=hJ5.set_ 5 (.slice (some ⟨g1,0,none⟩) l.ks.len l.ks.len)
 have hJ7:=hJ6.set_ 6 (.int .i64 r.k)
 have hJ8:=hJ7.set_ 7 (.int .i64 r.n)
 have hJ9:=hJ8.set_ 8 (.int .i64 r.p)
 have hJ10:=hJ9.set_ 9 (.int .i64 r.c)
 have hJ11:=hJ10.set_ 10 (.slice (some ⟨g2,0,none⟩) r.ks.len r.ks.len)
 have x0:=hJ1.cell 0
 have x1:=hJ2.cell 1
 have x2:=hJ3.cell 2
 have x3:=hJ4.cell 3
 have x4:=hJ5.cell 4
 have x5:=hJ6.cell 5
 have x6:=hJ7.cell 6
 have x7:=hJ8.cell 7
 have x8:=hJ9.cell 8
 have x9:=hJ10.cell 9
 have x10:=hJ11.cell 10
 simp only [List.set_cons_zero,List.set_cons_succ,List.getElem?_cons_zero,List.getElem?_cons_succ] at x0 x1 x2 x3 x4 x5 x6 x7 x8 x9 x10
 have HF5:=hid (And.intro hs5 hb5)
 have HB5:=hid hB5
 clear hs5 hb5 hB5 hK1 hK2 hJ0 hJ1 hJ2 hJ3 hJ4 hJ5 hJ6 hJ7 hJ8 hJ9 hJ10 hJ11 k6 f6 k7 f7 k8 f8 k9 f9 k10 f10
 go_wp2
 refine bodyPost_ret (v:=ruV v l (some ⟨g1,0,none⟩) l.ks.len r (some ⟨g2,0,none⟩) r.ks.len) (by simp [results,Tryz.results12,go_sem,x0,x1,x2,x3,x4,x5,x6,x7,x8,x9,x10]) rfl ?_
 have hs4:=HF.out.1
 have hg1:=HG1.out
 have hg2:=HG2.out
 have hb2:=HB2.out.size
 have hs1:=HS1.out
 have hs5:=HF5.out.1
 have hbF:Below w.heap.size w (((((((((((W5.setCell ⟨w.heap.size+1,0,none⟩ (.int .i64 v)).setCell ⟨w.heap.size+1,1,none⟩ (.int .i64 l.k)).setCell ⟨w.heap.size+1,2,none⟩ (.int .i64 l.n)).setCell ⟨w.heap.size+1,3,none⟩ (.int .i64 l.p)).setCell ⟨w.heap.size+1,4,none⟩ (.int .i64 l.c)).setCell ⟨w.heap.size+1,5,none⟩ (.slice (some ⟨g1,0,none⟩) l.ks.len l.ks.len)).setCell ⟨w.heap.size+1,6,none⟩ (.int .i64 r.k)).setCell ⟨w.heap.size+1,7,none⟩ (.int .i64 r.n)).setCell ⟨w.heap.size+1,8,none⟩ (.int .i64 r.p)).setCell ⟨w.heap.size+1,9,none⟩ (.int .i64 r.c)).setCell ⟨w.heap.size+1,10,none⟩ (.slice (some ⟨g2,0,none⟩) r.ks.len r.ks.len)):=(((((((((((HB5.out.setCell (p:=⟨w.heap.size+1,0,none⟩) (by simp;try omega) (.int .i64 v)).setCell (p:=⟨w.heap.size+1,1,none⟩) (by simp;try omega) (.int .i64 l.k)).setCell (p:=⟨w.heap.size+1,2,none⟩) (by simp;try omega) (.int .i64 l.n)).setCell (p:=⟨w.heap.size+1,3,none⟩) (by simp;try omega) (.int .i64 l.p)).setCell (p:=⟨w.heap.size+1,4,none⟩) (by simp;try omega) (.int .i64 l.c)).setCell (p:=⟨w.heap.size+1,5,none⟩) (by simp;try omega) (.slice (some ⟨g1,0,none⟩) l.ks.len l.ks.len)).setCell (p:=⟨w.heap.size+1,6,none⟩) (by simp;try omega) (.int .i64 r.k)).setCell (p:=⟨w.heap.size+1,7,none⟩) (by simp;try omega) (.int .i64 r.n)).setCell (p:=⟨w.heap.size+1,8,none⟩) (by simp;try omega) (.int .i64 r.p)).setCell (p:=⟨w.heap.size+1,9,none⟩) (by simp;try omega) (.int .i64 r.c)).setCell (p:=⟨w.heap.size+1,10,none⟩) (by simp;try omega) (.slice (some ⟨g2,0,none⟩) r.ks.len r.ks.len))
 have hq:∀ q,w.heap.size+3≤q→(((((((((((W5.setCell ⟨w.heap.size+1,0,none⟩ (.int .i64 v)).setCell ⟨w.heap.size+1,1,none⟩ (.int .i64 l.k)).setCell ⟨w.heap.size+1,2,none⟩ (.int .i64 l.n)).setCell ⟨w.heap.size+1,3,none⟩ (.int .i64 l.p)).setCell ⟨w.heap.size+1,4,none⟩ (.int .i64 l.c)).setCell ⟨w.heap.size+1,5,none⟩ (.slice (some ⟨g1,0,none⟩) l.ks.len l.ks.len)).setCell ⟨w.heap.size+1,6,none⟩ (.int .i64 r.k)).setCell ⟨w.heap.size+1,7,none⟩ (.int .i64 r.n)).setCell ⟨w.heap.size+1,8,none⟩ (.int .i64 r.p)).setCell ⟨w.heap.size+1,9,none⟩ (.int .i64 r.c)).setCell ⟨w.heap.size+1,10,none⟩ (.slice (some ⟨g2,0,none⟩) r.ks.len r.ks.len)).heap[q]? = w2.heap[q]?:=fun q hq=>by
  refine (Below.heap_setCell _ ⟨w.heap.size+1,10,none⟩ _ q (by (try dsimp only);omega)).trans ?_
  refine (Below.heap_setCell _ ⟨w.heap.size+1,9,none⟩ _ q (by (try dsimp only);omega)).trans ?_
  refine (Below.heap_setCell _ ⟨w.heap.size+1,8,none⟩ _ q (by (try dsimp only);omega)).trans ?_
  refine (Below.heap_setCell _ ⟨w.heap.size+1,7,none⟩ _ q (by (try dsimp only);omega)).trans ?_
  refine (Below.heap_setCell _ ⟨w.heap.size+1,6,none⟩ _ q (by (try dsimp only);omega)).trans ?_
  refine (Below.heap_setCell _ ⟨w.heap.size+1,5,none⟩ _ q (by (try dsimp only);omega)).trans ?_
  refine (Below.heap_setCell _ ⟨w.heap.size+1,4,none⟩ _ q (by (try dsimp only);omega)).trans ?_
  refine (Below.heap_setCell _ ⟨w.heap.size+1,3,none⟩ _ q (by (try dsimp only);omega)).trans ?_
  refine (Below.heap_setCell _ ⟨w.heap.size+1,2,none⟩ _ q (by (try dsimp only);omega)).trans ?_
  refine (Below.heap_setCell _ ⟨w.heap.size+1,1,none⟩ _ q (by (try dsimp only);omega)).trans ?_
  refine (Below.heap_setCell _ ⟨w.heap.size+1,0,none⟩ _ q (by (try dsimp only);omega)).trans ?_
  exact HF5.out.2 q (by omega)
 have hsF:(((((((((((W5.setCell ⟨w.heap.size+1,0,none⟩ (.int .i64 v)).setCell ⟨w.heap.size+1,1,none⟩ (.int .i64 l.k)).setCell ⟨w.heap.size+1,2,none⟩ (.int .i64 l.n)).setCell ⟨w.heap.size+1,3,none⟩ (.int .i64 l.p)).setCell ⟨w.heap.size+1,4,none⟩ (.int .i64 l.c)).setCell ⟨w.heap.size+1,5,none⟩ (.slice (some ⟨g1,0,none⟩) l.ks.len l.ks.len)).setCell ⟨w.heap.size+1,6,none⟩ (.int .i64 r.k)).setCell ⟨w.heap.size+1,7,none⟩ (.int .i64 r.n)).setCell ⟨w.heap.size+1,8,none⟩ (.int .i64 r.p)).setCell ⟨w.heap.size+1,9,none⟩ (.int .i64 r.c)).setCell ⟨w.heap.size+1,10,none⟩ (.slice (some ⟨g2,0,none⟩) r.ks.len r.ks.len)).heap.size=w2.heap.size:=by rw [←hs5];simp [World.setCell]
 generalize (((((((((((W5.setCell ⟨w.heap.size+1,0,none⟩ (.int .i64 v)).setCell ⟨w.heap.size+1,1,none⟩ (.int .i64 l.k)).setCell ⟨w.heap.size+1,2,none⟩ (.int .i64 l.n)).setCell ⟨w.heap.size+1,3,none⟩ (.int .i64 l.p)).setCell ⟨w.heap.size+1,4,none⟩ (.int .i64 l.c)).setCell ⟨w.heap.size+1,5,none⟩ (.slice (some ⟨g1,0,none⟩) l.ks.len l.ks.len)).setCell ⟨w.heap.size+1,6,none⟩ (.int .i64 r.k)).setCell ⟨w.heap.size+1,7,none⟩ (.int .i64 r.n)).setCell ⟨w.heap.size+1,8,none⟩ (.int .i64 r.p)).setCell ⟨w.heap.size+1,9,none⟩ (.int .i64 r.c)).setCell ⟨w.heap.size+1,10,none⟩ (.slice (some ⟨g2,0,none⟩) r.ks.len r.ks.len))=WF at hbF hq hsF ⊢
 refine ⟨g1,g2,rfl,⟨w1.heap.size,hg1.1,hg1.2, ?_,by omega,by omega, ?_⟩,hbF⟩
 ·have hk:∀ q,w.heap.size+3≤q→q<w1.heap.size→WF.heap[q]? = w1.heap[q]?:=fun q h1 h2=>(hq q h1).trans ((HB2.out.block q (by omega)).trans (HF.out.2 q (by omega)))
  exact HM1.out.keep (SameCells.of_block (hk g1 hg1.1 hg1.2) _ _) (fun q h1 h2=>hk q (by omega) h2)
 ·rw [hsF]
  exact HM2.out.keep (SameCells.of_block (hq g2 (by omega)) _ _) (fun q h1 _=>hq q (by omega))
end
end Go.Proofs.YtgfkglhelfkpoaaGreat
