/- Parts of the proof. -/
import Derived.Test.YtgfkglhelfkpoaaGreatRSH
set_option maxRecDepth 100000
set_option maxHeartbeats 4000000
open Go.Proofs.Tryz
open Go.Value renaming int→I,slice→V
open Go.IntKind renaming i64→J
open Option renaming some→M,none→U
open Go.Ending renaming returned→If
open Go.Obj renaming cells→Is
open Go renaming World→Iv,Calls→I0,Value→I1,Addr→I3
open Go.RowKit renaming Below→Ix
open Nat renaming le_refl→Jn
open Go.RowKit.Below renaming refl→Jx,heap_setCell→J1
namespace Go.Proofs.YtgfkglhelfkpoaaGreat
section
open Go.RowKit Plain
variable{w':Iv}{B p:Nat}
theorem gT.aiv{w:Iv}{t:TypeId}{v:I1}{ts:List av}(h:gT w B v ts)(hp:Typed w p t)(h1:t≠173)(h2:t≠2)(hb:∀ q,q<w.heap.size->q≠p->w'.heap[q]? = w.heap[q]?):gT w' B v ts:=by
 obtain⟨us,h⟩:=h;refine⟨us,h.len,iW h.own λg hg=>?_,λi u t hu ht=>?_,h.dist⟩
 ·exact hb g (World.ownsRow.lt h.own g hg).2 ((og h.own hg).ne hp (Ne.symm h1))
 ·obtain⟨h3,h4⟩:=h.row i u t hu ht
  exact⟨h3,h4.keep λg hg=>hb g (h4.lt hg).2 ((kE h4 hg).ne hp (Ne.symm h2))⟩
structure O4 (w0:Iv) (B p:Nat) (vars:Int) (L:List av) (n:Nat) (out:List av) (m cp:Nat) (A:Option I3) (wr:Iv):Prop where
 box:au wr p 86 [I J vars,V A m cp]
 aiE:au wr w0.heap.size 86 [I J 0,V U 0 0]
 len:out.length=m
 row:gT wr B (V A m cp) out
 canon:Canon out
 Cx:∀ e,eH out e=eH L e
 J3:jG n out
 below:Ix w0.heap.size w0 wr
 B0:w0.heap.size<B
 pB:B<=p
variable{w0 wr:Iv}{n m cp:Nat}{vars:Int}{L out:List av}{A:Option I3}
theorem O4.row'(h:O4 w0 B p vars L n out m cp A wr):gT wr B (V A out.length cp) out:=by rw[h.len];exact h.row
theorem O4.size(h:O4 w0 B p vars L n out m cp A wr):B<=wr.heap.size:=by have:=h.box.lt;have:=h.pB;omega
variable{w4:Iv}
theorem O4.put{w3:Iv}{c4:Nat}{c:Int}{jM:List av}{A4:Option I3}{E:List Int}(h:O4 w0 B p vars L n out m cp A w3)(hn:E.length=n)(hr:gT w4 B (V A4 jM.length c4) jM)(hc:Canon jM)
  (hco:∀ x,eH jM x=if E=x then pl c (eH out E) else eH out x) (hl:jG E.length jM) (hb:Ix w3.heap.size w3 w4):O4 w0 B p vars (L++[(E,c)]) n jM jM.length c4 A4 (w4.setCell ⟨p,1,U⟩ (V A4 jM.length c4)):=by
 have hB:=h.B0;have hpB:=h.pB;have hbx:=h.box.next hb;refine⟨?_, ?_,rfl, ?_,hc,λe=>?_,hn ▸ hl, ?_,h.B0,h.pB⟩
 ·have:=hbx.aJ 1 (V A4 jM.length c4)
  simpa using this
 ·exact (J1 _ _ _ _ (λe=>by simp only at e;omega)).trans (h.aiE.next hb)
 ·exact hr.aiv hbx.typed bM bM λq _ hq=>J1 _ _ _ _ hq
 ·rw[eB,<-h.Cx]
  exact PK (t:=(E,c)) hco e
 ·exact (aH h.below hb).setCell (p:=⟨p,1,U⟩) (by simp only;omega) _
theorem O4.same{L':List av}(h:O4 w0 B p vars L n out m cp A wr)(e:L=L'):O4 w0 B p vars L' n out m cp A wr:=e ▸ h
theorem EC{k:Int}{us:List av}{i:Nat}(h:i<us.length):dW k (us.take (i+1))=dW k (us.take i)++[((aR us i).1,tm (aR us i).2 k)]:=by
 rw[Qo h];unfold dW;rw[List.map_append];rfl
theorem w_(k:Int)(b1 o1 b2 o2:Nat)(u:Int)(A1 A2:Option I3)(c1 c2:Nat)(ts us:List av)(w:Iv)(h00:w.cell? ⟨b1,o1,U⟩=M (I J u))(h01:w.cell? ⟨b1,o1+1,U⟩=M (V A1 ts.length c1))
  (h11:w.cell? ⟨b2,o2+1,U⟩=M (V A2 us.length c2)) (hT:eX w A1 ts) (hU:eX w A2 us) (dh:aQ u ts=true) (hok2:aQ u us=true) :
  I0 Tryz.prog 124 #[ptr b1 o1,ptr b2 o2,I J k] w (aaJ u (kD (ts++dW k us)) w):=by
 have ah3:=(bC hok2).2.2;have ak6:=(bC dh).2.2;have afz:u.toNat<=12:=by have:=bC dh;omega
 obtain⟨n,hn⟩:=aD u.toNat
 rw[<-hn] at afz;have LK:ak (jG n us):=by rw[hn];exact bS hok2
 have ahu:jG n ts:=by rw[hn];exact bS dh
 have Rt:Ix w.heap.size w (w.alloc (Is #[I J 0,V U 0 0] 86)):=aV;have hsz:(w.alloc (Is #[I J 0,V U 0 0] 86)).heap.size=w.heap.size+1:=by simp
 have HR:=au.new w 86 [I J 0,V U 0 0];have HSC:ak (I0 Tryz.prog 199 #[ptr b1 o1,I J 1] (w.alloc (Is #[I J 0,V U 0 0] 86)) λe w1=>∃ A' cp,e=If (fJ u A' ts.length cp)/\Ix w.heap.size w w1/\O4 w (w.heap.size+1) w1.heap.size u (ts++dW k (us.take 0)) n ts ts.length cp A' (w1.alloc (Is #[I J u,V A' ts.length cp] 86))):=by
  refine (l8 1 ah ah b1 o1 u A1 c1 ts _ (aB h00 Rt) (aB h01 Rt) (hT.below Rt) dh).mono ?_;rintro e w1 ⟨A',cp,rfl,hrow,hb⟩;rw[yP (dV dh)] at hrow;rw[yP (dV dh)];rw[hsz] at hrow;have hb1:=Rt.trans (hb.mono Rt.size);have hal:Ix w1.heap.size w1 (w1.alloc (Is #[I J u,V A' ts.length cp] 86)):=aV;refine⟨A',cp,rfl,hb1,au.new w1 86 [I J u,V A' ts.length cp],(HR.next hb).next hal,rfl,hrow.below hal,dV dh,λe=>by simp[dW],ahu,aH hb1 hal,ah, ?_⟩
  have:=hb.size;omega
 have amk:b2<w.heap.size:=World.block_lt_of_cell? _ _ h11;have HU:=aj hU;have HQ:=aj h11;have Il:=aj hok2;clear hn dh hok2 hT hU h00 h01 h11 ahu Rt hsz HR;go_enter func124,ntmps124;go_wp2_with fail;refine HSC.o.mono ?_;rintro e w1 ⟨A0,cp0,rfl,akB,hst⟩;have HST:=aj hst;have hbp:w.heap.size<w1.heap.size+1:=by have:=hst.pB;omega
 clear hst HSC akB;go_wp2_with fail;generalize w1.alloc (Is #[I J u,V A0 ts.length cp0] 86)=W1 at *;obtain⟨p,hp⟩:=aD w1.heap.size
 rw[<-hp];rw[<-hp] at HST;clear hp
 go_loopg [8] (us.length+1) (λkx s8 wr=>∃ (i:Nat) (out:List av) (m cp:Nat) (A':Option I3),s8=I J (i:Int)/\i<=us.length/\us.length - i<kx/\m<=ts.length+i/\ak (O4 w (w.heap.size+1) p u (ts++dW k (us.take i)) n out m cp A' wr))
 case atStart=>exact⟨0,ts,ts.length,cp0,A0,by first | rfl | go_num,ah,ah,ah,HST⟩
 case round=>
  clear HST;obtain⟨i,out,m,cp,A',rfl,hin,hkx,hmi,HG⟩:=hrel;obtain⟨wo,rfl⟩:=aD wr
  have jF:ak (Ix w.heap.size w wo):=HG.o.below;have q1:wo.cell? ⟨b2,o2+1,U⟩=M (V A2 us.length c2):=aB HQ.o jF.o
  by_cases hlt:i<us.length
  ·have hiz:(i:Int)<(us.length:Int):=ah
   obtain⟨bt,ot,Ai,ci,rfl,Iu,Lh,Li,tI',_⟩:=HU.o.at_ hlt;have t0:=aB Lh jF.o;have t1:=aB Li jF.o;have HTI:ak (Ints wo Ai (aR us i).1):=tI'.below jF.o;clear Lh Li tI';have hlen:(aR us i).1.length=n:=LK.o _ (eZ hlt);rw[hlen] at t0;obtain⟨c,hc⟩:=aD ((aR us i).2)
   obtain⟨E,hE⟩:=aD ((aR us i).1)
   rw[<-hc] at t1;rw[<-hE] at hlen HTI;have BK:ak (ts++dW k (us.take i)++[(E,tm c k)]=ts++dW k (us.take (i+1))):=by show _=_;rw[EC hlt,List.append_assoc,hE,hc]
   have HTM:=aj (λwx=>l6 c k wx);have hbd:=wD c k;have p1:wo.cell? ⟨p,1,U⟩=M (V A' m cp):=ay HG.o.box
   have pf:wo.frozen? ⟨p,1,U⟩=false:=HG.o.box.frozen _;have kI:ak (p<wo.heap.size):=HG.o.box.lt;have HPT:ak (I0 Tryz.prog 203 #[V A' m cp,V Ai n ci,I J (tm c k)] wo.drew λe w4=>∃ A4 c4 jM,e=If (V A4 jM.length c4)/\Ix wo.heap.size wo w4/\jM.length<=m+1/\O4 w (w.heap.size+1) p u (ts++dW k (us.take (i+1))) n jM jM.length c4 A4 (w4.setCell ⟨p,1,U⟩ (V A4 jM.length c4))):=by
    have hm:out.length=m:=HG.o.len;have h:=Ql (w.heap.size+1) A' Ai cp ci out E (tm c k) wo.drew (HG.o.row'.below (Jx _ _).drew) (show w.heap.size+1<=wo.drew.heap.size from HG.o.size) (HTI.o.below (Jx _ _).drew) HG.o.canon (by rw[hlen];exact HG.o.J3) hbd.1 hbd.2 ah ah;rw[hlen,hm] at h;refine h.mono λe w4 ⟨A4,c4,jM,h1,h2,h3,h4,h5,h6,h7⟩=>⟨A4,c4,jM,h1,⟨h7.os,h7.tape,h7.output,h7.size,h7.block⟩,ah, ?_⟩
    exact (O4.put (c:=tm c k) HG.o hlen h2 h3 h4 h5 (⟨h7.os,h7.tape,h7.output,h7.size,h7.block⟩:Ix wo.heap.size wo w4)).same BK.o
   obtain⟨z,hz⟩:=aD (tm c k)
   rw[<-hz] at HPT HTM;clear hz hbd BK HTI HG hc hE;have gQ:ak (wo.cell? ⟨p,1,U⟩=M (V A' m cp)/\wo.cell? ⟨b2,o2+1,U⟩=M (V (M ⟨bt,ot,U⟩) us.length c2)/\wo.cell? ⟨bt,ot+i*2,U⟩=M (V Ai n ci)/\wo.cell? ⟨bt,ot+i*2+1,U⟩=M (I J c)):=⟨p1,q1,t0,t1⟩
   have Ij:ak (p<wo.heap.size/\b2<wo.heap.size/\bt<wo.heap.size):=⟨kI.o,by have:=jF.o.size;omega,by have:=jF.o.size;omega⟩
   go_wp2_with fail;refine aO.start (S:=(λwx=>wx.cell? ⟨p,1,U⟩=M (V A' m cp)/\wx.cell? ⟨b2,o2+1,U⟩=M (V (M ⟨bt,ot,U⟩) us.length c2)/\wx.cell? ⟨bt,ot+i*2,U⟩=M (V Ai n ci)/\wx.cell? ⟨bt,ot+i*2+1,U⟩=M (I J c))) 22 aL aL ?S0 (λaA hB=>?_)
   case S0=>((try dsimp only);exact gQ.o)
   iterate 19 (refine aO.tk hB aA ?_;try simp only[aP])
   refine aO.step (i:=19) rfl bM aL (λK hK=>?_);go_simp
   go_at_call 125
   refine (HTM.o _).mono ?_;rintro e w' ⟨rfl,rfl⟩;go_wp2_with fail;refine hK.out _ _ (by (try dsimp only);exact aA) ?_;clear hK K aA;intro aA
   (try simp only[aP])
   refine aO.step (i:=20) rfl bM aL (λK hK=>?_);go_simp
   go_at_call 203
   refine HPT.o.mono ?_;rintro e w4 ⟨A4,c4,jM,rfl,hb4,hl4,hD4⟩;go_wp2_with fail;refine hK.out _ _ (by (try dsimp only);exact NZ gQ.o Ij.o hb4) ?_;clear hK K aA;intro aA
   (try simp only[aP])
   have z1:=(hb4.cell (p:=⟨p,1,U⟩) kI.o).trans p1;have z2:=(hb4.frozen (p:=⟨p,1,U⟩) kI.o).trans pf
   (refine aO.tk hB aA ?_;try simp only[aP])
   refine aO.last rfl aL aL (λK hK=>?_);go_simp;refine hK.out _ _ ?_;clear hK K;have HD4:=aj hD4;clear hD4 hb4;go_wp2
   go_roundg (us.length - (i+1)+1)
   case measure=>omega
   case rel=>exact⟨i+1,jM,_,c4,A4,by first | rfl | go_num,ah,ah,ah,HD4⟩
  ·obtain rfl:i=us.length:=ah
   have hb:=HG.o.box;have x0:wo.cell? ⟨p,0,U⟩=M (I J u):=ay hb
   have x1:wo.cell? ⟨p,1,U⟩=M (V A' m cp):=ay hb
   have hC:=HG.o.aiE;have y0:wo.cell? ⟨w.heap.size,0,U⟩=M (I J 0):=ay hC
   have y1:wo.cell? ⟨w.heap.size,1,U⟩=M (V U 0 0):=ay hC
   have f0:wo.frozen? ⟨w.heap.size,0,U⟩=false:=hC.frozen _;have f1:wo.frozen? ⟨w.heap.size,1,U⟩=false:=hC.frozen _;have hD1:=hC.aJ 0 (I J u);have hD2:=hD1.aJ 1 (V A' m cp);have z0:=hD1.cell 0;have z1:=hD2.cell 1;simp only[eY] at z0 z1;have HE:ak (aaJ u (kD (ts++dW k us)) w (If (fJ u A' m cp)) ((wo.setCell ⟨w.heap.size,0,U⟩ (I J u)).setCell ⟨w.heap.size,1,U⟩ (V A' m cp))):=by
    have hlen:=HG.o.len;have JL:=HG.o.Cx;rw[List.take_length] at JL;have hnf:=pO HG.o.canon JL;have hB:=HG.o.B0;have hO2:aC (λq=>q=w.heap.size) wo ((wo.setCell ⟨w.heap.size,0,U⟩ (I J u)).setCell ⟨w.heap.size,1,U⟩ (V A' m cp)):=
     ⟨rfl,rfl,rfl,by simp[World.setCell],λq _ hq=>(J1 _ _ _ _ hq).trans (J1 _ _ _ _ hq)⟩
    have hrow:=(HG.o.row').only hO2 (λq hq e=>by have e':q=w.heap.size:=e;omega);refine⟨A',cp,by rw[<-hnf,hlen], ?_,(jF.o.setCell (p:=⟨w.heap.size,0,U⟩) (Jn _) _).setCell (p:=⟨w.heap.size,1,U⟩) (Jn _) _⟩;rw[<-hnf];exact hrow.lower ah
   have hz:¬ (us.length:Int)<(us.length:Int):=ah;clear hb hC hD1 hD2 HG;go_wp2;refine bodyPost_ret (v:=fJ u A' m cp) (by simp[results,results124,go_sem,z0,z1]) rfl ?_;exact HE.o
structure OB (W wx:Iv) (ob:Option Nat) (T:TypeId) (Z:List I1):Prop where
 below:Ix W.heap.size W wx
 box:∀ b,ob=M b->W.heap.size<=b/\au wx b T Z
theorem OB.start(W:Iv)(T:TypeId)(Z:List I1):OB W W.drew U T Z:=⟨(Jx _ _).drew,λb h=>by cases h⟩
variable{W wx:Iv}{T:TypeId}{Z:List I1}
theorem OB.next{ob:Option Nat}(h:OB W wx ob T Z)(hb:Ix wx.heap.size wx w'):OB W w' ob T Z:=
 ⟨aH h.below hb,λb e=>⟨(h.box b e).1,(h.box b e).2.next hb⟩⟩
theorem OB.al(h:OB W wx U T Z):OB W (wx.alloc (Is Z.toArray T)) (M wx.heap.size) T Z:=
 ⟨h.below.alloc h.below.size _,λb e=>by injection e with e;subst e;exact⟨h.below.size,au.new wx T Z⟩⟩
theorem OB.j_(W:Iv)(T:TypeId)(Z:List I1):OB W (W.alloc (Is Z.toArray T)).drew (M W.heap.size) T Z:=
 ⟨((Jx _ _).alloc (Jn _) _).drew,λb e=>by injection e with e;subst e;exact⟨Jn _,au.new W T Z⟩⟩
def QJ(W w':Iv)(b lo hi:Nat)(T:TypeId)(C:List I1)(Φ:Iv->Prop):Prop:=
 Ix W.heap.size W w'/\(W.heap.size<=b/\b<w'.heap.size/\W.heap.size<=lo/\lo<=hi/\hi<=w'.heap.size/\(b<lo∨hi<=b))/\au w' b T C/\jd w' lo hi Φ
variable{w5:Iv}{Φ:Iv->Prop}
theorem OB.al4{b:Nat}{z1 z2:I1}(h:OB W w4 (M b) T [z1,z2])(hb:Ix w4.heap.size w4 w5)(hR:jd w5 w4.heap.size w5.heap.size Φ)(x y:I1) :
  QJ W ((w5.setCell ⟨b,0,U⟩ x).setCell ⟨b,1,U⟩ y) b w4.heap.size w5.heap.size T [x,y] Φ:=by
 obtain⟨h1,h2⟩:=h.box b rfl;have h3:=h2.next hb;have hlt:=h2.lt;have hs:((w5.setCell ⟨b,0,U⟩ x).setCell ⟨b,1,U⟩ y).heap.size=w5.heap.size:=by simp[World.setCell]
 have hO2:aC (λq=>q=b) w5 ((w5.setCell ⟨b,0,U⟩ x).setCell ⟨b,1,U⟩ y):=
  ⟨rfl,rfl,rfl,by simp[World.setCell],λq _ hq=>(J1 _ _ _ _ hq).trans (J1 _ _ _ _ hq)⟩
 refine⟨((aH h.below hb).setCell (p:=⟨b,0,U⟩) h1 _).setCell (p:=⟨b,1,U⟩) h1 _,⟨h1,by rw[hs];have:=hb.size;omega,h.below.size,hb.size,by rw[hs];exact Jn _,.inl hlt⟩, ?_,hR.only hO2 (λq hq _ e=>by have e':q=b:=e;omega)⟩;have h4:=(h3.aJ 0 x).aJ 1 y;simpa using h4
theorem OB.Q0{C:List I1}(h:OB W w4 U T Z)(hb:Ix w4.heap.size w4 w5)(hR:jd w5 w4.heap.size w5.heap.size Φ) :
  QJ W (w5.alloc (Is C.toArray T)) w5.heap.size w4.heap.size w5.heap.size T C Φ:=by
 have hal:Ix w5.heap.size w5 (w5.alloc (Is C.toArray T)):=(Jx _ _).alloc (Jn _) _;refine⟨aH (aH h.below hb) hal,⟨by have:=hb.size;have:=h.below.size;omega,by simp,h.below.size,hb.size,by simp,.inr (Jn _)⟩,au.new w5 T C,hR.below hal⟩
end
end Go.Proofs.YtgfkglhelfkpoaaGreat
