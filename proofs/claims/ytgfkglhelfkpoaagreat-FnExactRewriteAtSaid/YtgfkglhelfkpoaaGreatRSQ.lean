/- Parts of the proof. -/
import Derived.Test.YtgfkglhelfkpoaaGreatRSP
set_option maxRecDepth 100000
set_option maxHeartbeats 4000000
open Go.Proofs.Tryz
open Go.Value renaming int→I,slice→V
open Go.IntKind renaming i64→J
open Option renaming some→M,none→U
open Go.Ending renaming returned→If
open Go.Obj renaming cells→Is
open Go renaming World→Iv,Calls→I0,Addr→I3
open Go.RowKit renaming Below→Ix
open And renaming intro→J0
open Go.RowKit.Below renaming heap_setCell→J1
namespace Go.Proofs.YtgfkglhelfkpoaaGreat
section
open Go.RowKit Plain
theorem OQ(v:Int)(l r:Nd)(KL KR:Option I3)(cl cr B:Nat)(w:Iv)(hL:bJ w B l.ks KL)(hR:bJ w B r.ks KR)(hB:B<=w.heap.size)(hl:l.ks.size<=1048576)(hr:r.ks.size<=1048576) :
  I0 Tryz.prog 12 #[rZ v l KL cl r KR cr] w λe w'=>∃ g1 g2,e=If (rZ v l (M ⟨g1,0,U⟩) l.ks.len r (M ⟨g2,0,U⟩) r.ks.len)/\rP (w.heap.size+3) w'.heap.size l r g1 g2 w'/\Ix w.heap.size w w':=by
 go_enter func12,ntmps12;go_wp2_with fail;obtain⟨hsz,pI,hC2,hb0⟩:=xS w (Is #[I J v,I J l.k,I J l.n,I J l.p,I J l.c,V KL l.ks.len cl,I J r.k,I J r.n,I J r.p,I J r.c,V KR r.ks.len cr] 26) 35 35 [I J 0,I J 0,I J 0,I J 0,I J 0,V U 0 0,I J 0,I J 0,I J 0,I J 0,V U 0 0] [I J v,I J 0,I J 0,I J 0,I J 0,V U 0 0,I J 0,I J 0,I J 0,I J 0,V U 0 0]
 have CP:au (((w.alloc (Is #[I J v,I J l.k,I J l.n,I J l.p,I J l.c,V KL l.ks.len cl,I J r.k,I J r.n,I J r.p,I J r.c,V KR r.ks.len cr] 26)).alloc (Is #[I J 0,I J 0,I J 0,I J 0,I J 0,V U 0 0,I J 0,I J 0,I J 0,I J 0,V U 0 0] 35)).alloc (Is #[I J v,I J 0,I J 0,I J 0,I J 0,V U 0 0,I J 0,I J 0,I J 0,I J 0,V U 0 0] 35)) w.heap.size 26 [I J v,I J l.k,I J l.n,I J l.p,I J l.c,V KL l.ks.len cl,I J r.k,I J r.n,I J r.p,I J r.c,V KR r.ks.len cr]:=((au.new w 26 [I J v,I J l.k,I J l.n,I J l.p,I J l.c,V KL l.ks.len cl,I J r.k,I J r.n,I J r.p,I J r.c,V KR r.ks.len cr]).next (w':=(w.alloc (Is #[I J v,I J l.k,I J l.n,I J l.p,I J l.c,V KL l.ks.len cl,I J r.k,I J r.n,I J r.p,I J r.c,V KR r.ks.len cr] 26)).alloc (Is #[I J 0,I J 0,I J 0,I J 0,I J 0,V U 0 0,I J 0,I J 0,I J 0,I J 0,V U 0 0] 35)) aV).next aV
 generalize (((w.alloc (Is #[I J v,I J l.k,I J l.n,I J l.p,I J l.c,V KL l.ks.len cl,I J r.k,I J r.n,I J r.p,I J r.c,V KR r.ks.len cr] 26)).alloc (Is #[I J 0,I J 0,I J 0,I J 0,I J 0,V U 0 0,I J 0,I J 0,I J 0,I J 0,V U 0 0] 35)).alloc (Is #[I J v,I J 0,I J 0,I J 0,I J 0,V U 0 0,I J 0,I J 0,I J 0,I J 0,V U 0 0] 35))=W3 at hsz hb0 CP pI hC2 ⊢
 refine (vD (pq l.ks hl) l.k l.n l.p l.c KL cl B W3 (hL.below (hb0.mono hB)) ah).mono ?_;rintro e w1 ⟨g1,hg1,akJ,rfl,hM1,hb1⟩;have hD0:=CP.next hb1;have hE1:=pI.next hb1;have hE2:=hC2.next hb1;clear CP pI hC2;have q0:w1.cell? ⟨w.heap.size,0,U⟩=M (I J v):=ay hD0
 have q1:w1.cell? ⟨w.heap.size,1,U⟩=M (I J l.k):=ay hD0
 have q2:w1.cell? ⟨w.heap.size,2,U⟩=M (I J l.n):=ay hD0
 have q3:w1.cell? ⟨w.heap.size,3,U⟩=M (I J l.p):=ay hD0
 have q4:w1.cell? ⟨w.heap.size,4,U⟩=M (I J l.c):=ay hD0
 have q5:w1.cell? ⟨w.heap.size,5,U⟩=M (V KL l.ks.len cl):=ay hD0
 have q6:w1.cell? ⟨w.heap.size,6,U⟩=M (I J r.k):=ay hD0
 have q7:w1.cell? ⟨w.heap.size,7,U⟩=M (I J r.n):=ay hD0
 have q8:w1.cell? ⟨w.heap.size,8,U⟩=M (I J r.p):=ay hD0
 have q9:w1.cell? ⟨w.heap.size,9,U⟩=M (I J r.c):=ay hD0
 have Iy:w1.cell? ⟨w.heap.size,10,U⟩=M (V KR r.ks.len cr):=ay hD0
 have k1:w1.cell? ⟨w.heap.size+1+1,1,U⟩=M (I J 0):=ay hE2
 have f1:w1.frozen? ⟨w.heap.size+1+1,1,U⟩=false:=hE2.frozen _;have k2:w1.cell? ⟨w.heap.size+1+1,2,U⟩=M (I J 0):=ay hE2
 have f2:w1.frozen? ⟨w.heap.size+1+1,2,U⟩=false:=hE2.frozen _;have k3:w1.cell? ⟨w.heap.size+1+1,3,U⟩=M (I J 0):=ay hE2
 have f3:w1.frozen? ⟨w.heap.size+1+1,3,U⟩=false:=hE2.frozen _;have k4:w1.cell? ⟨w.heap.size+1+1,4,U⟩=M (I J 0):=ay hE2
 have f4:w1.frozen? ⟨w.heap.size+1+1,4,U⟩=false:=hE2.frozen _;have k5:w1.cell? ⟨w.heap.size+1+1,5,U⟩=M (V U 0 0):=ay hE2
 have f5:w1.frozen? ⟨w.heap.size+1+1,5,U⟩=false:=hE2.frozen _;go_upto_region 4 with fail;have e4:(((((w1.setCell ⟨w.heap.size+1+1,1,U⟩ (I J l.k)).setCell ⟨w.heap.size+1+1,2,U⟩ (I J l.n)).setCell ⟨w.heap.size+1+1,3,U⟩ (I J l.p)).setCell ⟨w.heap.size+1+1,4,U⟩ (I J l.c)).setCell ⟨w.heap.size+1+1,5,U⟩ (V (M ⟨g1,0,U⟩) l.ks.len l.ks.len))=(cK w1 (w.heap.size+1+1) 1 l.k l.n l.p l.c (V (M ⟨g1,0,U⟩) l.ks.len l.ks.len)):=rfl
 have hs4:(((((w1.setCell ⟨w.heap.size+1+1,1,U⟩ (I J l.k)).setCell ⟨w.heap.size+1+1,2,U⟩ (I J l.n)).setCell ⟨w.heap.size+1+1,3,U⟩ (I J l.p)).setCell ⟨w.heap.size+1+1,4,U⟩ (I J l.c)).setCell ⟨w.heap.size+1+1,5,U⟩ (V (M ⟨g1,0,U⟩) l.ks.len l.ks.len)).heap.size=w1.heap.size:=by rw[e4];exact bN ..
 have hb4:∀ q,q≠w.heap.size+1+1->(((((w1.setCell ⟨w.heap.size+1+1,1,U⟩ (I J l.k)).setCell ⟨w.heap.size+1+1,2,U⟩ (I J l.n)).setCell ⟨w.heap.size+1+1,3,U⟩ (I J l.p)).setCell ⟨w.heap.size+1+1,4,U⟩ (I J l.c)).setCell ⟨w.heap.size+1+1,5,U⟩ (V (M ⟨g1,0,U⟩) l.ks.len l.ks.len)).heap[q]? = w1.heap[q]?:=λq hq=>by rw[e4];exact dN _ _ _ _ _ hq
 have hF2:au (((((w1.setCell ⟨w.heap.size+1+1,1,U⟩ (I J l.k)).setCell ⟨w.heap.size+1+1,2,U⟩ (I J l.n)).setCell ⟨w.heap.size+1+1,3,U⟩ (I J l.p)).setCell ⟨w.heap.size+1+1,4,U⟩ (I J l.c)).setCell ⟨w.heap.size+1+1,5,U⟩ (V (M ⟨g1,0,U⟩) l.ks.len l.ks.len)) (w.heap.size+1+1) 35 [I J v,I J l.k,I J l.n,I J l.p,I J l.c,V (M ⟨g1,0,U⟩) l.ks.len l.ks.len,I J 0,I J 0,I J 0,I J 0,V U 0 0]:=oz (o:=1) hE2 l.k l.n l.p l.c (V (M ⟨g1,0,U⟩) l.ks.len l.ks.len)
 have Rp:au (((((w1.setCell ⟨w.heap.size+1+1,1,U⟩ (I J l.k)).setCell ⟨w.heap.size+1+1,2,U⟩ (I J l.n)).setCell ⟨w.heap.size+1+1,3,U⟩ (I J l.p)).setCell ⟨w.heap.size+1+1,4,U⟩ (I J l.c)).setCell ⟨w.heap.size+1+1,5,U⟩ (V (M ⟨g1,0,U⟩) l.ks.len l.ks.len)) w.heap.size 26 [I J v,I J l.k,I J l.n,I J l.p,I J l.c,V KL l.ks.len cl,I J r.k,I J r.n,I J r.p,I J r.c,V KR r.ks.len cr]:=(((((hD0.far (p:=⟨w.heap.size+1+1,1,U⟩) (by (try dsimp only);omega) (I J l.k)).far (p:=⟨w.heap.size+1+1,2,U⟩) (by (try dsimp only);omega) (I J l.n)).far (p:=⟨w.heap.size+1+1,3,U⟩) (by (try dsimp only);omega) (I J l.p)).far (p:=⟨w.heap.size+1+1,4,U⟩) (by (try dsimp only);omega) (I J l.c)).far (p:=⟨w.heap.size+1+1,5,U⟩) (by (try dsimp only);omega) (V (M ⟨g1,0,U⟩) l.ks.len l.ks.len))
 have hF1:au (((((w1.setCell ⟨w.heap.size+1+1,1,U⟩ (I J l.k)).setCell ⟨w.heap.size+1+1,2,U⟩ (I J l.n)).setCell ⟨w.heap.size+1+1,3,U⟩ (I J l.p)).setCell ⟨w.heap.size+1+1,4,U⟩ (I J l.c)).setCell ⟨w.heap.size+1+1,5,U⟩ (V (M ⟨g1,0,U⟩) l.ks.len l.ks.len)) (w.heap.size+1) 35 [I J 0,I J 0,I J 0,I J 0,I J 0,V U 0 0,I J 0,I J 0,I J 0,I J 0,V U 0 0]:=(((((hE1.far (p:=⟨w.heap.size+1+1,1,U⟩) (by (try dsimp only);omega) (I J l.k)).far (p:=⟨w.heap.size+1+1,2,U⟩) (by (try dsimp only);omega) (I J l.n)).far (p:=⟨w.heap.size+1+1,3,U⟩) (by (try dsimp only);omega) (I J l.p)).far (p:=⟨w.heap.size+1+1,4,U⟩) (by (try dsimp only);omega) (I J l.c)).far (p:=⟨w.heap.size+1+1,5,U⟩) (by (try dsimp only);omega) (V (M ⟨g1,0,U⟩) l.ks.len l.ks.len))
 have hB4:Ix w.heap.size w (((((w1.setCell ⟨w.heap.size+1+1,1,U⟩ (I J l.k)).setCell ⟨w.heap.size+1+1,2,U⟩ (I J l.n)).setCell ⟨w.heap.size+1+1,3,U⟩ (I J l.p)).setCell ⟨w.heap.size+1+1,4,U⟩ (I J l.c)).setCell ⟨w.heap.size+1+1,5,U⟩ (V (M ⟨g1,0,U⟩) l.ks.len l.ks.len)):=((((((hb0.trans (hb1.mono ah)).setCell (p:=⟨w.heap.size+1+1,1,U⟩) (by simp;omega) (I J l.k)).setCell (p:=⟨w.heap.size+1+1,2,U⟩) (by simp;omega) (I J l.n)).setCell (p:=⟨w.heap.size+1+1,3,U⟩) (by simp;omega) (I J l.p)).setCell (p:=⟨w.heap.size+1+1,4,U⟩) (by simp;omega) (I J l.c)).setCell (p:=⟨w.heap.size+1+1,5,U⟩) (by simp;omega) (V (M ⟨g1,0,U⟩) l.ks.len l.ks.len))
 clear e4 hD0 hE1 hE2 q0 q1 q2 q3 q4 q5 q6 q7 q8 q9 Iy k1 f1 k2 f2 k3 f3 k4 f4 k5 f5;generalize (((((w1.setCell ⟨w.heap.size+1+1,1,U⟩ (I J l.k)).setCell ⟨w.heap.size+1+1,2,U⟩ (I J l.n)).setCell ⟨w.heap.size+1+1,3,U⟩ (I J l.p)).setCell ⟨w.heap.size+1+1,4,U⟩ (I J l.c)).setCell ⟨w.heap.size+1+1,5,U⟩ (V (M ⟨g1,0,U⟩) l.ks.len l.ks.len))=W4 at hs4 hb4 Rp hF1 hF2 hB4 ⊢
 have q0:W4.cell? ⟨w.heap.size,0,U⟩=M (I J v):=ay Rp
 have q1:W4.cell? ⟨w.heap.size,1,U⟩=M (I J l.k):=ay Rp
 have q2:W4.cell? ⟨w.heap.size,2,U⟩=M (I J l.n):=ay Rp
 have q3:W4.cell? ⟨w.heap.size,3,U⟩=M (I J l.p):=ay Rp
 have q4:W4.cell? ⟨w.heap.size,4,U⟩=M (I J l.c):=ay Rp
 have q5:W4.cell? ⟨w.heap.size,5,U⟩=M (V KL l.ks.len cl):=ay Rp
 have q6:W4.cell? ⟨w.heap.size,6,U⟩=M (I J r.k):=ay Rp
 have q7:W4.cell? ⟨w.heap.size,7,U⟩=M (I J r.n):=ay Rp
 have q8:W4.cell? ⟨w.heap.size,8,U⟩=M (I J r.p):=ay Rp
 have q9:W4.cell? ⟨w.heap.size,9,U⟩=M (I J r.c):=ay Rp
 have Iy:W4.cell? ⟨w.heap.size,10,U⟩=M (V KR r.ks.len cr):=ay Rp
 have fH:=aj (vD (pq r.ks hr) r.k r.n r.p r.c KR cr B W4 (hR.below (hB4.mono hB)) ah);have HF:=aj (J0 hs4 hb4);clear hs4 hb4;have Bh:=aj hM1;clear hM1;have Te:=aj hB4;clear hB4;have mq:ak (w.heap.size+3<=g1/\g1<w1.heap.size):=by show _/\_;omega
 have eu:ak (w.heap.size+3<=w1.heap.size):=by show _<=_;have:=hb1.size;omega
 clear hb0 hb1 hg1 akJ hsz hL hR Rp;go_wp2_with fail;refine fH.o.mono ?_;rintro e w2 ⟨g2,hg2,ahQ,rfl,hM2,hb2⟩;have hI1:=hF1.next hb2;have hI2:=hF2.next hb2;clear hF1 hF2 q0 q1 q2 q3 q4 q5 q6 q7 q8 q9 Iy;have k6:w2.cell? ⟨w.heap.size+1+1,6,U⟩=M (I J 0):=ay hI2
 have f6:w2.frozen? ⟨w.heap.size+1+1,6,U⟩=false:=hI2.frozen _;have k7:w2.cell? ⟨w.heap.size+1+1,7,U⟩=M (I J 0):=ay hI2
 have f7:w2.frozen? ⟨w.heap.size+1+1,7,U⟩=false:=hI2.frozen _;have k8:w2.cell? ⟨w.heap.size+1+1,8,U⟩=M (I J 0):=ay hI2
 have f8:w2.frozen? ⟨w.heap.size+1+1,8,U⟩=false:=hI2.frozen _;have k9:w2.cell? ⟨w.heap.size+1+1,9,U⟩=M (I J 0):=ay hI2
 have f9:w2.frozen? ⟨w.heap.size+1+1,9,U⟩=false:=hI2.frozen _;have k10:w2.cell? ⟨w.heap.size+1+1,10,U⟩=M (V U 0 0):=ay hI2
 have f10:w2.frozen? ⟨w.heap.size+1+1,10,U⟩=false:=hI2.frozen _;have e5:(((((w2.setCell ⟨w.heap.size+1+1,6,U⟩ (I J r.k)).setCell ⟨w.heap.size+1+1,7,U⟩ (I J r.n)).setCell ⟨w.heap.size+1+1,8,U⟩ (I J r.p)).setCell ⟨w.heap.size+1+1,9,U⟩ (I J r.c)).setCell ⟨w.heap.size+1+1,10,U⟩ (V (M ⟨g2,0,U⟩) r.ks.len r.ks.len))=(cK w2 (w.heap.size+1+1) 6 r.k r.n r.p r.c (V (M ⟨g2,0,U⟩) r.ks.len r.ks.len)):=rfl
 have hs5:(((((w2.setCell ⟨w.heap.size+1+1,6,U⟩ (I J r.k)).setCell ⟨w.heap.size+1+1,7,U⟩ (I J r.n)).setCell ⟨w.heap.size+1+1,8,U⟩ (I J r.p)).setCell ⟨w.heap.size+1+1,9,U⟩ (I J r.c)).setCell ⟨w.heap.size+1+1,10,U⟩ (V (M ⟨g2,0,U⟩) r.ks.len r.ks.len)).heap.size=w2.heap.size:=by rw[e5];exact bN ..
 have hb5:∀ q,q≠w.heap.size+1+1->(((((w2.setCell ⟨w.heap.size+1+1,6,U⟩ (I J r.k)).setCell ⟨w.heap.size+1+1,7,U⟩ (I J r.n)).setCell ⟨w.heap.size+1+1,8,U⟩ (I J r.p)).setCell ⟨w.heap.size+1+1,9,U⟩ (I J r.c)).setCell ⟨w.heap.size+1+1,10,U⟩ (V (M ⟨g2,0,U⟩) r.ks.len r.ks.len)).heap[q]? = w2.heap[q]?:=λq hq=>by rw[e5];exact dN _ _ _ _ _ hq
 have hK2:au (((((w2.setCell ⟨w.heap.size+1+1,6,U⟩ (I J r.k)).setCell ⟨w.heap.size+1+1,7,U⟩ (I J r.n)).setCell ⟨w.heap.size+1+1,8,U⟩ (I J r.p)).setCell ⟨w.heap.size+1+1,9,U⟩ (I J r.c)).setCell ⟨w.heap.size+1+1,10,U⟩ (V (M ⟨g2,0,U⟩) r.ks.len r.ks.len)) (w.heap.size+1+1) 35 [I J v,I J l.k,I J l.n,I J l.p,I J l.c,V (M ⟨g1,0,U⟩) l.ks.len l.ks.len,I J r.k,I J r.n,I J r.p,I J r.c,V (M ⟨g2,0,U⟩) r.ks.len r.ks.len]:=oz (o:=6) hI2 r.k r.n r.p r.c (V (M ⟨g2,0,U⟩) r.ks.len r.ks.len)
 have hK1:au (((((w2.setCell ⟨w.heap.size+1+1,6,U⟩ (I J r.k)).setCell ⟨w.heap.size+1+1,7,U⟩ (I J r.n)).setCell ⟨w.heap.size+1+1,8,U⟩ (I J r.p)).setCell ⟨w.heap.size+1+1,9,U⟩ (I J r.c)).setCell ⟨w.heap.size+1+1,10,U⟩ (V (M ⟨g2,0,U⟩) r.ks.len r.ks.len)) (w.heap.size+1) 35 [I J 0,I J 0,I J 0,I J 0,I J 0,V U 0 0,I J 0,I J 0,I J 0,I J 0,V U 0 0]:=(((((hI1.far (p:=⟨w.heap.size+1+1,6,U⟩) (by (try dsimp only);omega) (I J r.k)).far (p:=⟨w.heap.size+1+1,7,U⟩) (by (try dsimp only);omega) (I J r.n)).far (p:=⟨w.heap.size+1+1,8,U⟩) (by (try dsimp only);omega) (I J r.p)).far (p:=⟨w.heap.size+1+1,9,U⟩) (by (try dsimp only);omega) (I J r.c)).far (p:=⟨w.heap.size+1+1,10,U⟩) (by (try dsimp only);omega) (V (M ⟨g2,0,U⟩) r.ks.len r.ks.len))
 have hB5:Ix w.heap.size w (((((w2.setCell ⟨w.heap.size+1+1,6,U⟩ (I J r.k)).setCell ⟨w.heap.size+1+1,7,U⟩ (I J r.n)).setCell ⟨w.heap.size+1+1,8,U⟩ (I J r.p)).setCell ⟨w.heap.size+1+1,9,U⟩ (I J r.c)).setCell ⟨w.heap.size+1+1,10,U⟩ (V (M ⟨g2,0,U⟩) r.ks.len r.ks.len)):=((((((Te.o.trans (hb2.mono (by have:=Te.o.size;omega))).setCell (p:=⟨w.heap.size+1+1,6,U⟩) (by simp;omega) (I J r.k)).setCell (p:=⟨w.heap.size+1+1,7,U⟩) (by simp;omega) (I J r.n)).setCell (p:=⟨w.heap.size+1+1,8,U⟩) (by simp;omega) (I J r.p)).setCell (p:=⟨w.heap.size+1+1,9,U⟩) (by simp;omega) (I J r.c)).setCell (p:=⟨w.heap.size+1+1,10,U⟩) (by simp;omega) (V (M ⟨g2,0,U⟩) r.ks.len r.ks.len))
 have Ik:=aj hM2;have HB2:=aj hb2;have pz:=aj (J0 hg2 ahQ);clear hM2 hb2 hg2 ahQ hI1 hI2 e5;go_upto_region 5 with fail;generalize (((((w2.setCell ⟨w.heap.size+1+1,6,U⟩ (I J r.k)).setCell ⟨w.heap.size+1+1,7,U⟩ (I J r.n)).setCell ⟨w.heap.size+1+1,8,U⟩ (I J r.p)).setCell ⟨w.heap.size+1+1,9,U⟩ (I J r.c)).setCell ⟨w.heap.size+1+1,10,U⟩ (V (M ⟨g2,0,U⟩) r.ks.len r.ks.len))=W5 at hs5 hb5 hK1 hK2 hB5 ⊢
 have k0':W5.cell? ⟨w.heap.size+1+1,0,U⟩=M (I J v):=ay hK2
 have j0:W5.cell? ⟨w.heap.size+1,0,U⟩=M (I J 0):=ay hK1
 have g0':W5.frozen? ⟨w.heap.size+1,0,U⟩=false:=hK1.frozen _;have k1':W5.cell? ⟨w.heap.size+1+1,1,U⟩=M (I J l.k):=ay hK2
 have j1:W5.cell? ⟨w.heap.size+1,1,U⟩=M (I J 0):=ay hK1
 have g1':W5.frozen? ⟨w.heap.size+1,1,U⟩=false:=hK1.frozen _;have k2':W5.cell? ⟨w.heap.size+1+1,2,U⟩=M (I J l.n):=ay hK2
 have j2:W5.cell? ⟨w.heap.size+1,2,U⟩=M (I J 0):=ay hK1
 have g2':W5.frozen? ⟨w.heap.size+1,2,U⟩=false:=hK1.frozen _;have k3':W5.cell? ⟨w.heap.size+1+1,3,U⟩=M (I J l.p):=ay hK2
 have j3:W5.cell? ⟨w.heap.size+1,3,U⟩=M (I J 0):=ay hK1
 have g3':W5.frozen? ⟨w.heap.size+1,3,U⟩=false:=hK1.frozen _;have k4':W5.cell? ⟨w.heap.size+1+1,4,U⟩=M (I J l.c):=ay hK2
 have j4:W5.cell? ⟨w.heap.size+1,4,U⟩=M (I J 0):=ay hK1
 have g4':W5.frozen? ⟨w.heap.size+1,4,U⟩=false:=hK1.frozen _;have k5':W5.cell? ⟨w.heap.size+1+1,5,U⟩=M (V (M ⟨g1,0,U⟩) l.ks.len l.ks.len):=ay hK2
 have j5:W5.cell? ⟨w.heap.size+1,5,U⟩=M (V U 0 0):=ay hK1
 have g5':W5.frozen? ⟨w.heap.size+1,5,U⟩=false:=hK1.frozen _;have k6':W5.cell? ⟨w.heap.size+1+1,6,U⟩=M (I J r.k):=ay hK2
 have j6:W5.cell? ⟨w.heap.size+1,6,U⟩=M (I J 0):=ay hK1
 have g6':W5.frozen? ⟨w.heap.size+1,6,U⟩=false:=hK1.frozen _;have k7':W5.cell? ⟨w.heap.size+1+1,7,U⟩=M (I J r.n):=ay hK2
 have j7:W5.cell? ⟨w.heap.size+1,7,U⟩=M (I J 0):=ay hK1
 have g7':W5.frozen? ⟨w.heap.size+1,7,U⟩=false:=hK1.frozen _;have k8':W5.cell? ⟨w.heap.size+1+1,8,U⟩=M (I J r.p):=ay hK2
 have j8:W5.cell? ⟨w.heap.size+1,8,U⟩=M (I J 0):=ay hK1
 have g8':W5.frozen? ⟨w.heap.size+1,8,U⟩=false:=hK1.frozen _;have k9':W5.cell? ⟨w.heap.size+1+1,9,U⟩=M (I J r.c):=ay hK2
 have j9:W5.cell? ⟨w.heap.size+1,9,U⟩=M (I J 0):=ay hK1
 have g9':W5.frozen? ⟨w.heap.size+1,9,U⟩=false:=hK1.frozen _;have amX:W5.cell? ⟨w.heap.size+1+1,10,U⟩=M (V (M ⟨g2,0,U⟩) r.ks.len r.ks.len):=ay hK2
 have j10:W5.cell? ⟨w.heap.size+1,10,U⟩=M (V U 0 0):=ay hK1
 have al5:W5.frozen? ⟨w.heap.size+1,10,U⟩=false:=hK1.frozen _;have hJ0:=hK1;have hJ1:=hJ0.aJ 0 (I J v);have hJ2:=hJ1.aJ 1 (I J l.k);have hJ3:=hJ2.aJ 2 (I J l.n);have hJ4:=hJ3.aJ 3 (I J l.p);have hJ5:=hJ4.aJ 4 (I J l.c);have hJ6:=hJ5.aJ 5 (V (M ⟨g1,0,U⟩) l.ks.len l.ks.len);have hJ7:=hJ6.aJ 6 (I J r.k);have hJ8:=hJ7.aJ 7 (I J r.n)
 have hJ9:=hJ8.aJ 8 (I J r.p);have ae7:=hJ9.aJ 9 (I J r.c);have ahs:=ae7.aJ 10 (V (M ⟨g2,0,U⟩) r.ks.len r.ks.len);have x0:=hJ1.cell 0;have x1:=hJ2.cell 1;have x2:=hJ3.cell 2;have x3:=hJ4.cell 3;have x4:=hJ5.cell 4;have x5:=hJ6.cell 5;have x6:=hJ7.cell 6;have x7:=hJ8.cell 7;have x8:=hJ9.cell 8;have x9:=ae7.cell 9;have x10:=ahs.cell 10;simp only[eY] at x0 x1 x2 x3 x4 x5 x6 x7 x8 x9 x10
 have HF5:=aj (J0 hs5 hb5);have IL:=aj hB5;clear hs5 hb5 hB5 hK1 hK2 hJ0 hJ1 hJ2 hJ3 hJ4 hJ5 hJ6 hJ7 hJ8 hJ9 ae7 ahs k6 f6 k7 f7 k8 f8 k9 f9 k10 f10;go_wp2;refine bodyPost_ret (v:=rZ v l (M ⟨g1,0,U⟩) l.ks.len r (M ⟨g2,0,U⟩) r.ks.len) (by simp[results,results12,go_sem,x0,x1,x2,x3,x4,x5,x6,x7,x8,x9,x10]) rfl ?_;have hs4:=HF.o.1;have hg1:=mq.o;have hg2:=pz.o;have hb2:=HB2.o.size
 have hs1:=eu.o;have hs5:=HF5.o.1;have hbF:Ix w.heap.size w (((((((((((W5.setCell ⟨w.heap.size+1,0,U⟩ (I J v)).setCell ⟨w.heap.size+1,1,U⟩ (I J l.k)).setCell ⟨w.heap.size+1,2,U⟩ (I J l.n)).setCell ⟨w.heap.size+1,3,U⟩ (I J l.p)).setCell ⟨w.heap.size+1,4,U⟩ (I J l.c)).setCell ⟨w.heap.size+1,5,U⟩ (V (M ⟨g1,0,U⟩) l.ks.len l.ks.len)).setCell ⟨w.heap.size+1,6,U⟩ (I J r.k)).setCell ⟨w.heap.size+1,7,U⟩ (I J r.n)).setCell ⟨w.heap.size+1,8,U⟩ (I J r.p)).setCell ⟨w.heap.size+1,9,U⟩ (I J r.c)).setCell ⟨w.heap.size+1,10,U⟩ (V (M ⟨g2,0,U⟩) r.ks.len r.ks.len)):=(((((((((((IL.o.setCell (p:=⟨w.heap.size+1,0,U⟩) (by simp;try omega) (I J v)).setCell (p:=⟨w.heap.size+1,1,U⟩) (by simp;try omega) (I J l.k)).setCell (p:=⟨w.heap.size+1,2,U⟩) (by simp;try omega) (I J l.n)).setCell (p:=⟨w.heap.size+1,3,U⟩) (by simp;try omega) (I J l.p)).setCell (p:=⟨w.heap.size+1,4,U⟩) (by simp;try omega) (I J l.c)).setCell (p:=⟨w.heap.size+1,5,U⟩) (by simp;try omega) (V (M ⟨g1,0,U⟩) l.ks.len l.ks.len)).setCell (p:=⟨w.heap.size+1,6,U⟩) (by simp;try omega) (I J r.k)).setCell (p:=⟨w.heap.size+1,7,U⟩) (by simp;try omega) (I J r.n)).setCell (p:=⟨w.heap.size+1,8,U⟩) (by simp;try omega) (I J r.p)).setCell (p:=⟨w.heap.size+1,9,U⟩) (by simp;try omega) (I J r.c)).setCell (p:=⟨w.heap.size+1,10,U⟩) (by simp;try omega) (V (M ⟨g2,0,U⟩) r.ks.len r.ks.len))
 have hq:∀ q,w.heap.size+3<=q->(((((((((((W5.setCell ⟨w.heap.size+1,0,U⟩ (I J v)).setCell ⟨w.heap.size+1,1,U⟩ (I J l.k)).setCell ⟨w.heap.size+1,2,U⟩ (I J l.n)).setCell ⟨w.heap.size+1,3,U⟩ (I J l.p)).setCell ⟨w.heap.size+1,4,U⟩ (I J l.c)).setCell ⟨w.heap.size+1,5,U⟩ (V (M ⟨g1,0,U⟩) l.ks.len l.ks.len)).setCell ⟨w.heap.size+1,6,U⟩ (I J r.k)).setCell ⟨w.heap.size+1,7,U⟩ (I J r.n)).setCell ⟨w.heap.size+1,8,U⟩ (I J r.p)).setCell ⟨w.heap.size+1,9,U⟩ (I J r.c)).setCell ⟨w.heap.size+1,10,U⟩ (V (M ⟨g2,0,U⟩) r.ks.len r.ks.len)).heap[q]? = w2.heap[q]?:=λq hq=>by
  refine (J1 _ ⟨w.heap.size+1,10,U⟩ _ q (by (try dsimp only);omega)).trans ?_;refine (J1 _ ⟨w.heap.size+1,9,U⟩ _ q (by (try dsimp only);omega)).trans ?_;refine (J1 _ ⟨w.heap.size+1,8,U⟩ _ q (by (try dsimp only);omega)).trans ?_;refine (J1 _ ⟨w.heap.size+1,7,U⟩ _ q (by (try dsimp only);omega)).trans ?_;refine (J1 _ ⟨w.heap.size+1,6,U⟩ _ q (by (try dsimp only);omega)).trans ?_
  refine (J1 _ ⟨w.heap.size+1,5,U⟩ _ q (by (try dsimp only);omega)).trans ?_;refine (J1 _ ⟨w.heap.size+1,4,U⟩ _ q (by (try dsimp only);omega)).trans ?_;refine (J1 _ ⟨w.heap.size+1,3,U⟩ _ q (by (try dsimp only);omega)).trans ?_;refine (J1 _ ⟨w.heap.size+1,2,U⟩ _ q (by (try dsimp only);omega)).trans ?_;refine (J1 _ ⟨w.heap.size+1,1,U⟩ _ q (by (try dsimp only);omega)).trans ?_
  refine (J1 _ ⟨w.heap.size+1,0,U⟩ _ q (by (try dsimp only);omega)).trans ?_;exact HF5.o.2 q ah
 have hsF:(((((((((((W5.setCell ⟨w.heap.size+1,0,U⟩ (I J v)).setCell ⟨w.heap.size+1,1,U⟩ (I J l.k)).setCell ⟨w.heap.size+1,2,U⟩ (I J l.n)).setCell ⟨w.heap.size+1,3,U⟩ (I J l.p)).setCell ⟨w.heap.size+1,4,U⟩ (I J l.c)).setCell ⟨w.heap.size+1,5,U⟩ (V (M ⟨g1,0,U⟩) l.ks.len l.ks.len)).setCell ⟨w.heap.size+1,6,U⟩ (I J r.k)).setCell ⟨w.heap.size+1,7,U⟩ (I J r.n)).setCell ⟨w.heap.size+1,8,U⟩ (I J r.p)).setCell ⟨w.heap.size+1,9,U⟩ (I J r.c)).setCell ⟨w.heap.size+1,10,U⟩ (V (M ⟨g2,0,U⟩) r.ks.len r.ks.len)).heap.size=w2.heap.size:=by rw[<-hs5];simp[World.setCell]
 generalize (((((((((((W5.setCell ⟨w.heap.size+1,0,U⟩ (I J v)).setCell ⟨w.heap.size+1,1,U⟩ (I J l.k)).setCell ⟨w.heap.size+1,2,U⟩ (I J l.n)).setCell ⟨w.heap.size+1,3,U⟩ (I J l.p)).setCell ⟨w.heap.size+1,4,U⟩ (I J l.c)).setCell ⟨w.heap.size+1,5,U⟩ (V (M ⟨g1,0,U⟩) l.ks.len l.ks.len)).setCell ⟨w.heap.size+1,6,U⟩ (I J r.k)).setCell ⟨w.heap.size+1,7,U⟩ (I J r.n)).setCell ⟨w.heap.size+1,8,U⟩ (I J r.p)).setCell ⟨w.heap.size+1,9,U⟩ (I J r.c)).setCell ⟨w.heap.size+1,10,U⟩ (V (M ⟨g2,0,U⟩) r.ks.len r.ks.len))=WF at hbF hq hsF ⊢
 refine⟨g1,g2,rfl,⟨w1.heap.size,hg1.1,hg1.2, ?_,ah,ah, ?_⟩,hbF⟩
 ·have hk:∀ q,w.heap.size+3<=q->q<w1.heap.size->WF.heap[q]? = w1.heap[q]?:=λq h1 h2=>(hq q h1).trans ((HB2.o.block q ah).trans (HF.o.2 q ah))
  exact Bh.o.keep (aN.of_block (hk g1 hg1.1 hg1.2) _ _) (λq h1 h2=>hk q ah h2)
 ·rw[hsF]
  exact Ik.o.keep (aN.of_block (hq g2 ah) _ _) (λq h1 _=>hq q ah)
end
end Go.Proofs.YtgfkglhelfkpoaaGreat
