/- Parts of the proof. -/
import Derived.Test.YtgfkglhelfkpoaaGreatRQA
import Derived.Test.YtgfkglhelfkpoaaGreatRSQ
set_option maxRecDepth 100000
set_option maxHeartbeats 4000000
open Go.Proofs.Tryz
open Go.Value renaming int→I,slice→V
open Go.IntKind renaming i64→J
open Option renaming some→M,none→U
open Go.Ending renaming returned→If
open Go.Obj renaming cells→Is
open Go renaming World→Iv,Calls→I0,Value→I1,maxLen→I2,Addr→I3
open Go.RowKit renaming Below→Ix
open Nat renaming le_refl→Jn,le_trans→Mp,lt_of_lt_of_le→M1
open Go.RowKit.Below renaming refl→Jx,heap_setCell→J1
open And renaming intro→J0
open Bool renaming and_eq_true→Mb
open Int renaming toNat_natCast→Mz
namespace Go.Proofs.YtgfkglhelfkpoaaGreat
section
open Go.RowKit Plain
variable{v:Int}{l r:Nd}
theorem aa7{z1 z2:List av}{s1 c1 s2 c2:Int}(h1:gJ (om v [] 3001 0 l (kX v v.toNat) 0) z1 s1 c1)(h2:gJ (om v [] 3001 c1 r (kX v v.toNat) s1.toNat) z2 s2 c2) :
  (c2=0->c1=0/\pG v l r=((v,kD (z1++dW 1000002 z2)),0))/\(c2≠0->pG v l r=((0,[]),c2)):=by
 have hl:(⟨l.k,l.n,l.p,l.c,l.ks⟩:Nd)=l:=rfl;have hr:(⟨r.k,r.n,r.p,r.c,r.ks⟩:Nd)=r:=rfl;refine⟨λhc=>?_,λhc=>?_⟩
 ·obtain⟨e0,t2,_,_,_,e2⟩:=iB h2 hc
  obtain⟨_,t1,rfl,_,_,e1⟩:=iB h1 e0;rw[Mz] at e2;refine⟨e0, ?_⟩;unfold pG two;simp only[cB,hl,hr,e1,e2];rfl
 ·by_cases h0:c1=0
  ·obtain⟨_,t1,rfl,_,_,e1⟩:=iB h1 h0
   have e2:=nH h2 hc h0;rw[Mz] at e2;unfold pG two;simp only[cB,hl,hr,e1,e2];rfl
  ·have e1:=nH h1 h0 rfl
   have e2:c2=c1:=by
    unfold om at h2;rw[if_neg h0] at h2;exact h2
   subst e2;unfold pG two;simp only[cB,hl,e1];rfl
variable{w:Iv}{A:Option I3}
theorem aew{w1:Iv}{v0 c:Int}{cp lo:Nat}{R:List av}(hb:Ix w.heap.size w w1)(h:RT w1 lo w1.heap.size A R)(hlo:w.heap.size<lo)(x y:I1) :
  Pt (v0,R) c w (If (.tuple #[fJ v0 A R.length cp,I J c])) ((w1.setCell ⟨w.heap.size,0,U⟩ x).setCell ⟨w.heap.size,1,U⟩ y):=by
 have hO2:aC (λq=>q=w.heap.size) w1 ((w1.setCell ⟨w.heap.size,0,U⟩ x).setCell ⟨w.heap.size,1,U⟩ y):=
  ⟨rfl,rfl,rfl,by simp[World.setCell],λq _ hq=>(J1 _ _ _ _ hq).trans (J1 _ _ _ _ hq)⟩
 have h2:=h.only hO2 (λq hq _ e=>by have e':q=w.heap.size:=e;omega);have hs:((w1.setCell ⟨w.heap.size,0,U⟩ x).setCell ⟨w.heap.size,1,U⟩ y).heap.size=w1.heap.size:=by simp[World.setCell]
 exact⟨(hb.setCell (p:=⟨w.heap.size,0,U⟩) (by simp) _).setCell (p:=⟨w.heap.size,1,U⟩) (by simp) _,A,cp,rfl,RT.Di h2 ah (by rw[hs];exact Jn _)⟩
def SO(bv:Nat)(ob:Option Nat):Nat->Prop:=λq=>q<=bv∨ob=M q
variable{bv:Nat}{ob:Option Nat}
theorem SO.sub(q:Nat)(h:q<=bv):SO bv ob q:=.inl h
variable{W:Iv}{T:TypeId}{Z:List I1}
theorem SO.lt{wx:Iv}(h:OB W wx ob T Z)(hb:bv<W.heap.size)(q:Nat)(e:SO bv ob q):q<wx.heap.size:=by
 rcases e with e | e
 ·have:=h.below.size;omega
 ·exact (h.box q e).2.lt
structure aaK (W wc:Iv) (bv b:Nat) (t T:TypeId) (hd:List I1) (u:Int) (A:Option I3) (c:Nat) (ts:List av) (s' c':Int):Prop where
 lo:W.heap.size<=b
 bx:au wc b T [I J u,V A ts.length c]
 pt:iK wc (λq=>q<=bv) A ts
 ok:aQ u ts=true
 st:au wc bv t (hd++[I J s',I J c'])
 on:aC (λq=>q=bv) W wc
variable{w3 w4:Iv}{t:TypeId}{hd:List I1}{u s' c':Int}{c:Nat}{ts:List av}
theorem OB.endP{b:Nat}{z1 z2:I1}(h:OB W w3 (M b) T [z1,z2])(hbv:bv<W.heap.size)(hp:iK w4 (SO bv (M b)) A ts)(dh:aQ u ts=true)(hst:au w4 bv t (hd++[I J s',I J c']))(ho:aC (λq=>q=bv) w3 w4) :
  aaK W ((w4.setCell ⟨b,0,U⟩ (I J u)).setCell ⟨b,1,U⟩ (V A ts.length c)) bv b t T hd u A c ts s' c':=by
 obtain⟨h1,h2⟩:=h.box b rfl;have h3:=aM h2 ho ah;have hO2:aC (λq=>q=b) w4 ((w4.setCell ⟨b,0,U⟩ (I J u)).setCell ⟨b,1,U⟩ (V A ts.length c)):=
  ⟨rfl,rfl,rfl,by simp[World.setCell],λq _ hq=>(J1 _ _ _ _ hq).trans (J1 _ _ _ _ hq)⟩
 have hW:aC (λq=>q=bv) W w4:=(aC.of_below h.below).trans ho;refine⟨h1, ?_, ?_,dh,aM hst hO2 ah,⟨hO2.os.trans hW.os,hO2.tape.trans hW.tape,hO2.output.trans hW.output,Mp hW.size hO2.size,λq hq hn=>(hO2.block q (M1 hq hW.size) (λe=>by have e':q=b:=e;omega)).trans (hW.block q hq hn)⟩⟩
 ·have h4:=(h3.aJ 0 (I J u)).aJ 1 (V A ts.length c)
  simpa using h4
 ·exact (hp.only (hO2.sub (T:=SO bv (M b)) λq e=>by rw[e];exact .inr rfl)).sub SO.sub
theorem OB.PS(h:OB W w3 U T Z)(_hbv:bv<W.heap.size)(hp:iK w4 (SO bv U) A ts)(dh:aQ u ts=true)(hst:au w4 bv t (hd++[I J s',I J c']))(ho:aC (λq=>q=bv) w3 w4) :
  aaK W (w4.alloc (Is #[I J u,V A ts.length c] T)) bv w4.heap.size t T hd u A c ts s' c':=by
 have hal:Ix w4.heap.size w4 (w4.alloc (Is #[I J u,V A ts.length c] T)):=(Jx _ _).alloc (Jn _) _;have hW:aC (λq=>q=bv) W w4:=(aC.of_below h.below).trans ho;exact⟨hW.size,au.new w4 T _,(hp.sub SO.sub).only (aC.of_below hal),dh,hst.next hal,hW.trans (aC.of_below hal)⟩
theorem fK.boxed{env:List (List av)}(h:fK w (SO bv U) u A env)(x:Obj):fK (w.alloc x) (SO bv (M w.heap.size)) u A env:=
 (h.fresh (g:=w.heap.size) (aC.of_below ((Jx _ _).alloc (Jn _) _)) (Jn _)).sub λq e=>by
  rcases e with e | e
  ·exact .inl (.inl e)
  ·injection e with e;exact .inr e.symm
theorem akl(v:Int)(l r:Nd)(b o B:Nat)(w:Iv)(hE:pE w B v l r b o)(hB:B<=w.heap.size)(v0:0<=v)(v3:v<=3)(hl:dw l v=true)(hr:dw r v=true) :
  I0 Tryz.prog 58 #[ptr b o] w (λe w'=>Pt (pG v l r).1 (pG v l r).2 w e w'/\acO v (pG v l r)):=by
 obtain⟨W0,aZ⟩:=aD (((w.alloc (Is #[I J 0,V U 0 0] 86)).alloc (Is #[V U 0 0] 51)).alloc (Is #[ptr (w.heap.size+1) 0,I J v,I J 0,I J 0] 161))
 have HB0:ak (Ix w.heap.size w W0):=by show Ix _ _ _;rw[aZ];go_grown
 have IV:ak (au W0 w.heap.size 86 [I J 0,V U 0 0]):=by
  show au _ _ _ _;rw[aZ];exact (au.new w 86 _).next aV
 have DY:ak (au W0 (w.heap.size+1) 51 [V U 0 0]):=by
  show au _ _ _ _;rw[aZ];have:=(au.new (w.alloc (Is #[I J 0,V U 0 0] 86)) 51 [V U 0 0]).next (w':=((w.alloc (Is #[I J 0,V U 0 0] 86)).alloc (Is #[V U 0 0] 51)).alloc (Is #[ptr (w.heap.size+1) 0,I J v,I J 0,I J 0] 161)) aV;simpa using this
 have HD0:ak (au W0 (w.heap.size+2) 161 [ptr (w.heap.size+1) 0,I J v,I J 0,I J 0]):=by
  show au _ _ _ _;rw[aZ];have:=au.new ((w.alloc (Is #[I J 0,V U 0 0] 86)).alloc (Is #[V U 0 0] 51)) 161 [ptr (w.heap.size+1) 0,I J v,I J 0,I J 0];simpa using this
 have gQ:ak (W0.heap.size=w.heap.size+3):=by show _=_;rw[aZ];simp
 have dI:=aj aZ;have lD:=hE.left.1;have q0:((w.alloc (Is #[I J 0,V U 0 0] 86)).alloc (Is #[V U 0 0] 51)).cell? ⟨b,o,U⟩=M (I J v):=aB hE.vars aV;have HRA:=aj hE;have Co:=aj (J0 hl hr);obtain⟨gv,RH⟩:=aD (pG v l r)
 rw[<-RH];have HGV:=aj RH;clear RH hl hr hE aZ;go_enter func58,ntmps58;go_upto_region 3 with fail;rw[<-dI.o];clear q0;have yx:w.heap.size+2<W0.heap.size:=HD0.o.lt;have Bz:v<=12:=ah;have HRW:ak (∀ wx,aC (λq=>q=w.heap.size+2) W0 wx->pE wx B v l r b o):=λwx ho=>HRA.o.below ((HB0.o.mono hB).trans (ho.below (by have:=gQ.o;omega) (λq e=>ah)))
 have BJ:ak (∀ wx,aC (λq=>q=w.heap.size+2) W0 wx->wx.cell? ⟨b,o,U⟩=M (I J v)):=λwx ho=>(HRW.o wx ho).vars
 have iZ:ak (qd W0 (w.heap.size+2) (w.heap.size+2) 1 [] (w.heap.size+1) 0):=⟨⟨ah,U,0,by rw[DY.o.cell];rfl,Jn _,Nat.zero_le _,eP.nil _ _⟩,Jn _,yx,Dq,ah,ah⟩
 have oI:ak (∀ W wx ob,W0.heap.size<=W.heap.size->OB W wx ob 86 [I J 0,V U 0 0]->I0 Tryz.prog 108 #[I J v] wx λe w'=>∃ A cp,e=If (V A v.toNat cp)/\ak (v.toNat<=cp/\cp<=I2/\fK w' (SO (w.heap.size+2) ob) v A (kX v v.toNat))/\Ix wx.heap.size wx w'):=λW wx ob hs sV=>
  (JV v (SO (w.heap.size+2) ob) wx (λq e=>SO.lt sV ah q e) v0 Bz).mono λe w' ⟨A,cp,h1,h2,h3,h4,h5⟩=>⟨A,cp,h1,⟨h2,h3,h4⟩,h5⟩
 have LQ:ak (aC (λq=>q=w.heap.size+2) W0 W0):=aC.refl _ _;have PZ:=yx;have HX6:ak (∀ wx ob A3 c3,OB W0 wx ob 86 [I J 0,V U 0 0]->(v.toNat<=c3/\c3<=I2/\fK wx (SO (w.heap.size+2) ob) v A3 (kX v v.toNat))->I0 Tryz.prog 123 #[.pointer (M ⟨w.heap.size+2,0,U⟩),.pointer (M ⟨b,o+1,U⟩),V A3 v.toNat c3] wx (dM (SO (w.heap.size+2) ob) (w.heap.size+2) v 161 (iy v (w.heap.size+1) 0) (om v [] 3001 0 l (kX v v.toNat) 0) wx)):=λwx ob A3 c3 sV ⟨h1,h2,h3⟩=>by
  have hO:aC (λq=>q=w.heap.size+2) W0 wx:=aC.of_below sV.below;have hO0:=LQ.o.trans hO;have hsp:=cZ Co.o.1;have Bw:=rD Co.o.1;have hrw:=HRW.o wx hO0;have hz:=EU [] v 3001 l (kX v v.toNat) 0 0 0 0 b (o+1) (w.heap.size+2) (SO (w.heap.size+2) ob) (w.heap.size+2) A3 c3 (w.heap.size+1) 0 wx (iZ.o.only hO0) ⟨.inl (Jn _),λq e=>SO.lt sV (by have:=hO0.size;have:=LQ.o.size;omega) q e,trivial,v0,Bz⟩ (HD0.o.next sV.below) (λ_=>⟨rfl,ah,ah⟩)
   ⟨hrw.left.mono ah,h3,by rw[dH];exact h1,h2,by rw[dH];omega,ah,by rw[dH,Int.toNat_of_nonneg v0];exact hsp.2.2.1,Int.le_refl _,by simp⟩
  rw[dH] at hz;exact hz
 obtain⟨R6,hR6⟩:=aD (om v [] 3001 0 l (kX v v.toNat) 0)
 rw[<-hR6] at HX6;have aeR:=aj hR6;clear hR6
 go_cut [6] from 15 to 24 (λsx wc=>∃ (b6:Nat) (A6:Option I3) (c6:Nat) (ts6:List av) (ZW c6':Int),sx=.pointer (M ⟨b6,0,U⟩)/\ak (aaK W0 wc (w.heap.size+2) b6 161 86 (iy v (w.heap.size+1) 0) v A6 c6 ts6 ZW c6')/\ak (gJ R6 ts6 ZW c6'))
 case first=>
  go_region_held3 (λwx=>wx.cell? ⟨b,o,U⟩=M (I J v)) (first | exact BJ.o _ (LQ.o.trans (aC.of_below (OB.below (OB.start W0 86 [I J 0,V U 0 0])))) | exact BJ.o _ (LQ.o.trans (aC.of_below (OB.below (OB.j_ W0 86 [I J 0,V U 0 0])))) | exact BJ.o _ (LQ.o.trans (aC.of_below (OB.below O3.o))) | exact BJ.o _ (LQ.o.trans (aC.of_below (OB.below O3.o.al))) | exact BJ.o _ (LQ.o.trans ((aC.of_below OF.o.below).trans uZ.o)) | exact BJ.o _ (LQ.o.trans (((aC.of_below OF.o.below).trans uZ.o).trans (aC.of_below ((Jx _ _).alloc (Jn _) _)))) | exact BJ.o _ (LQ.o.trans (OB.endP OF.o PZ Bj.o.1 Bj.o.2 VE.o uZ.o).on) | exact BJ.o _ (LQ.o.trans (OB.PS OF.o PZ Bj.o.1 Bj.o.2 VE.o uZ.o).on))
   (first
    | (go_at_call 108;(with_reducible refine (oI.o W0 _ _ LQ.o.size (OB.start W0 86 [I J 0,V U 0 0])).mono ?_);rintro e w3 ⟨A3,c3,rfl,CQ,hb3⟩;have O3:=aj (OB.next (OB.start W0 86 [I J 0,V U 0 0]) hb3);clear hb3)
    | (go_at_call 108;(with_reducible refine (oI.o W0 _ _ LQ.o.size (OB.j_ W0 86 [I J 0,V U 0 0])).mono ?_);rintro e w3 ⟨A3,c3,rfl,CQ,hb3⟩;have O3:=aj (OB.next (OB.j_ W0 86 [I J 0,V U 0 0]) hb3);clear hb3)
    | (go_at_call 123;(with_reducible refine (HX6.o _ _ _ _ O3.o CQ.o).mono ?_);rintro e w4 ⟨_,jM,s4',I8,rfl,⟨A4,c4,rfl,vw,hk4⟩,qR,hO4,fZ⟩;have OF:=aj O3.o;have uZ:=aj hO4;have Bj:=aj (J0 vw hk4);have VE:=aj qR;have LX:=aj fZ;(first | (obtain⟨afv,hcl⟩:=OF.o.box _ rfl;have jy:=aM hcl hO4 ah;have y0q:=(jy.cell 0).trans rfl;have y1q:=(jy.cell 1).trans rfl;have f0q:=jy.frozen 0;have f1q:=jy.frozen 1;simp only[List.getElem?_cons_zero,List.getElem?_cons_succ] at y0q y1q;clear hcl jy) | skip);clear vw hk4 qR hO4 fZ)
    | (go_at_call 123;(with_reducible refine (HX6.o _ _ _ _ O3.o.al ⟨CQ.o.1,CQ.o.2.1,CQ.o.2.2.boxed _⟩).mono ?_);rintro e w4 ⟨_,jM,s4',I8,rfl,⟨A4,c4,rfl,vw,hk4⟩,qR,hO4,fZ⟩;have OF:=aj O3.o.al;have uZ:=aj hO4;have Bj:=aj (J0 vw hk4);have VE:=aj qR;have LX:=aj fZ;(first | (obtain⟨afv,hcl⟩:=OF.o.box _ rfl;have jy:=aM hcl hO4 ah;have y0q:=(jy.cell 0).trans rfl;have y1q:=(jy.cell 1).trans rfl;have f0q:=jy.frozen 0;have f1q:=jy.frozen 1;simp only[List.getElem?_cons_zero,List.getElem?_cons_succ] at y0q y1q;clear hcl jy) | skip);clear vw hk4 qR hO4 fZ))
  all_goals
   go_wp2_with fail;go_meet
   case rel=>first | exact⟨_,_,_,_,_,_,rfl,(OB.endP OF.o PZ Bj.o.1 Bj.o.2 VE.o uZ.o),LX.o⟩ | exact⟨_,_,_,_,_,_,rfl,(OB.PS OF.o PZ Bj.o.1 Bj.o.2 VE.o uZ.o),LX.o⟩
 case rest=>
 obtain⟨b6,A6,c6,ts6,ZW,c6',rfl,Eb,VD⟩:=hcut;obtain⟨w6,rfl⟩:=aD wc
 have P5:w.heap.size+2<w6.heap.size:=Eb.o.st.lt;have agw:ak (c6'=0->ZW=((ZW.toNat:Nat):Int)/\ZW.toNat<=3000/\3001<=ZW.toNat+3001):=λh=>by
  have h1:=VD.o;rw[aeR.o] at h1;obtain⟨_,t1,e1,_,e3,_⟩:=iB h1 h;subst e1;rw[Mz];exact⟨rfl,e3,ah⟩
 clear HX6;go_upto_region 4 with fail;have HX7:ak (∀ wx ob A3 c3,OB w6 wx ob 86 [I J 0,V U 0 0]->(v.toNat<=c3/\c3<=I2/\fK wx (SO (w.heap.size+2) ob) v A3 (kX v v.toNat))->I0 Tryz.prog 123 #[.pointer (M ⟨w.heap.size+2,0,U⟩),.pointer (M ⟨b,o+6,U⟩),V A3 v.toNat c3] wx (dM (SO (w.heap.size+2) ob) (w.heap.size+2) v 161 (iy v (w.heap.size+1) 0) (om v [] 3001 c6' r (kX v v.toNat) ZW.toNat) wx)):=λwx ob A3 c3 sV ⟨h1,h2,h3⟩=>by
  have hO:aC (λq=>q=w.heap.size+2) w6 wx:=aC.of_below sV.below;have hO0:=Eb.o.on.trans hO;have hsp:=cZ Co.o.2;have Bw:=rD Co.o.2;have hrw:=HRW.o wx hO0;have hz:=EU [] v 3001 r (kX v v.toNat) ZW ZW.toNat c6' 0 b (o+6) (w.heap.size+2) (SO (w.heap.size+2) ob) (w.heap.size+2) A3 c3 (w.heap.size+1) 0 wx (iZ.o.only hO0) ⟨.inl (Jn _),λq e=>SO.lt sV (by have:=hO0.size;have:=Eb.o.on.size;omega) q e,trivial,v0,Bz⟩ (Eb.o.st.next sV.below) agw.o
   ⟨hrw.right.mono ah,h3,by rw[dH];exact h1,h2,by rw[dH];omega,ah,by rw[dH,Int.toNat_of_nonneg v0];exact hsp.2.2.1,Int.le_refl _,by simp⟩
  rw[dH] at hz;exact hz
 obtain⟨R7,hR7⟩:=aD (om v [] 3001 c6' r (kX v v.toNat) ZW.toNat)
 rw[<-hR7] at HX7;have agI:=aj hR7;clear hR7
 go_cut [7] from 25 to 34 (λsx wc=>∃ (b7:Nat) (A7:Option I3) (c7:Nat) (ts7:List av) (s7' QO:Int),sx=.pointer (M ⟨b7,0,U⟩)/\ak (aaK w6 wc (w.heap.size+2) b7 161 86 (iy v (w.heap.size+1) 0) v A7 c7 ts7 s7' QO)/\ak (gJ R7 ts7 s7' QO))
 case first=>
  go_region_held3 (λwx=>wx.cell? ⟨b,o,U⟩=M (I J v)) (first | exact BJ.o _ (Eb.o.on.trans (aC.of_below (OB.below (OB.start w6 86 [I J 0,V U 0 0])))) | exact BJ.o _ (Eb.o.on.trans (aC.of_below (OB.below (OB.j_ w6 86 [I J 0,V U 0 0])))) | exact BJ.o _ (Eb.o.on.trans (aC.of_below (OB.below O3.o))) | exact BJ.o _ (Eb.o.on.trans (aC.of_below (OB.below O3.o.al))) | exact BJ.o _ (Eb.o.on.trans ((aC.of_below OF.o.below).trans uZ.o)) | exact BJ.o _ (Eb.o.on.trans (((aC.of_below OF.o.below).trans uZ.o).trans (aC.of_below ((Jx _ _).alloc (Jn _) _)))) | exact BJ.o _ (Eb.o.on.trans (OB.endP OF.o P5 Bj.o.1 Bj.o.2 VE.o uZ.o).on) | exact BJ.o _ (Eb.o.on.trans (OB.PS OF.o P5 Bj.o.1 Bj.o.2 VE.o uZ.o).on))
   (first
    | (go_at_call 108;(with_reducible refine (oI.o w6 _ _ Eb.o.on.size (OB.start w6 86 [I J 0,V U 0 0])).mono ?_);rintro e w3 ⟨A3,c3,rfl,CQ,hb3⟩;have O3:=aj (OB.next (OB.start w6 86 [I J 0,V U 0 0]) hb3);clear hb3)
    | (go_at_call 108;(with_reducible refine (oI.o w6 _ _ Eb.o.on.size (OB.j_ w6 86 [I J 0,V U 0 0])).mono ?_);rintro e w3 ⟨A3,c3,rfl,CQ,hb3⟩;have O3:=aj (OB.next (OB.j_ w6 86 [I J 0,V U 0 0]) hb3);clear hb3)
    | (go_at_call 123;(with_reducible refine (HX7.o _ _ _ _ O3.o CQ.o).mono ?_);rintro e w4 ⟨_,jM,s4',I8,rfl,⟨A4,c4,rfl,vw,hk4⟩,qR,hO4,fZ⟩;have OF:=aj O3.o;have uZ:=aj hO4;have Bj:=aj (J0 vw hk4);have VE:=aj qR;have LX:=aj fZ;(first | (obtain⟨afv,hcl⟩:=OF.o.box _ rfl;have jy:=aM hcl hO4 ah;have y0q:=(jy.cell 0).trans rfl;have y1q:=(jy.cell 1).trans rfl;have f0q:=jy.frozen 0;have f1q:=jy.frozen 1;simp only[List.getElem?_cons_zero,List.getElem?_cons_succ] at y0q y1q;clear hcl jy) | skip);clear vw hk4 qR hO4 fZ)
    | (go_at_call 123;(with_reducible refine (HX7.o _ _ _ _ O3.o.al ⟨CQ.o.1,CQ.o.2.1,CQ.o.2.2.boxed _⟩).mono ?_);rintro e w4 ⟨_,jM,s4',I8,rfl,⟨A4,c4,rfl,vw,hk4⟩,qR,hO4,fZ⟩;have OF:=aj O3.o.al;have uZ:=aj hO4;have Bj:=aj (J0 vw hk4);have VE:=aj qR;have LX:=aj fZ;(first | (obtain⟨afv,hcl⟩:=OF.o.box _ rfl;have jy:=aM hcl hO4 ah;have y0q:=(jy.cell 0).trans rfl;have y1q:=(jy.cell 1).trans rfl;have f0q:=jy.frozen 0;have f1q:=jy.frozen 1;simp only[List.getElem?_cons_zero,List.getElem?_cons_succ] at y0q y1q;clear hcl jy) | skip);clear vw hk4 qR hO4 fZ))
  all_goals
   go_wp2_with fail;go_meet
   case rel=>first | exact⟨_,_,_,_,_,_,rfl,(OB.endP OF.o P5 Bj.o.1 Bj.o.2 VE.o uZ.o),LX.o⟩ | exact⟨_,_,_,_,_,_,rfl,(OB.PS OF.o P5 Bj.o.1 Bj.o.2 VE.o uZ.o),LX.o⟩
 case rest=>
 obtain⟨b7,A7,c7,ts7,s7',QO,rfl,HE7,acR⟩:=hcut;obtain⟨w7,rfl⟩:=aD wc
 have hO7:=Eb.o.on.trans HE7.o.on;have afi:=aM Eb.o.bx HE7.o.on (by have:=Eb.o.lo;omega);have aeI:ak (Ix w.heap.size w w7):=HB0.o.trans (hO7.below (by have:=gQ.o;omega) (λq e=>ah));have HR7:=aj (aM IV.o hO7 ah);have k3:w7.cell? ⟨w.heap.size+2,3,U⟩=M (I J QO):=ay HE7.o.st
 have x0:w7.cell? ⟨b6,0,U⟩=M (I J v):=ay afi
 have x1:w7.cell? ⟨b6,0+1,U⟩=M (V A6 ts6.length c6):=ay afi
 have x3:w7.cell? ⟨b7,0+1,U⟩=M (V A7 ts7.length c7):=ay HE7.o.bx
 have HAD:=aj (w_ 1000002 b6 0 b7 0 v A6 A7 c6 c7 ts6 ts7 w7 x0 x1 x3 (Eb.o.pt.only (HE7.o.on.sub λq e=>by rw[e];exact Jn _)).now HE7.o.pt.now Eb.o.ok HE7.o.ok);have HGP:ak ((QO=0->gv=((v,kD (ts6++dW 1000002 ts7)),0))/\(QO≠0->gv=((0,[]),QO))):=by
  have h1:=VD.o;rw[aeR.o] at h1;have h2:=acR.o;rw[agI.o] at h2;have h3:=aa7 h1 h2;exact⟨λh=>HGV.o.trans (h3.1 h).2,λh=>HGV.o.trans (h3.2 h)⟩
 have ah5:w.heap.size<w7.heap.size:=HR7.o.lt;have hgk:=Jy Eb.o.ok HE7.o.ok;clear HX7 iZ oI HRW BJ agw LQ VD acR aeR agI Eb HE7 hO7 afi x0 x1 x3;obtain⟨R,hR⟩:=aD (kD (ts6++dW 1000002 ts7))
 rw[<-hR] at HAD HGP hgk;have HGK:=aj hgk;clear hgk;clear hR
 by_cases hcc:QO=0
 ·subst hcc
  have HPV:=aj (HGP.o.1 rfl);clear HGP;go_wp2_with fail;refine HAD.o.mono ?_;rintro e w8 ⟨A8,c8,rfl,E_,ND⟩;have hr8:=HR7.o.next ND;have y0:w8.cell? ⟨w.heap.size,0,U⟩=M (I J 0):=ay hr8
  have y1:w8.cell? ⟨w.heap.size,1,U⟩=M (V U 0 0):=ay hr8
  have f0:w8.frozen? ⟨w.heap.size,0,U⟩=false:=hr8.frozen _;have f1:w8.frozen? ⟨w.heap.size,1,U⟩=false:=hr8.frozen _;have hD1:=hr8.aJ 0 (I J v);have hD2:=hD1.aJ 1 (V A8 R.length c8);have z0:=hD1.cell 0;have z1:=hD2.cell 1;simp only[eY] at z0 z1;clear hD1 hD2;have HRT:=aj (E_.rt ND.size);have pW:=aj (aeI.o.trans (ND.mono aeI.o.size))
  clear E_ ND hr8 HAD;go_wp2;refine bodyPost_ret (v:=.tuple #[fJ v A8 R.length c8,I J 0]) (by simp[results,results58,go_sem,z0,z1]) rfl ?_;rw[HPV.o];exact⟨aew pW.o HRT.o ah5 _ _,λ_=>⟨rfl,HGK.o⟩⟩
 ·have HPV:=aj (HGP.o.2 hcc)
  have hcb:(QO != 0)=true:=by simpa using hcc
  clear hcc HGP HAD;go_wp2_with fail;have RJ:au w7.drew w.heap.size 86 [I J 0,V U 0 0]:=HR7.o.drewN 1;have HS9:ak (w7.drew.cell? ⟨w.heap.size+2,3,U⟩=M (I J QO)):=k3;have y0:w7.drew.cell? ⟨w.heap.size,0,U⟩=M (I J 0):=ay RJ
  have y1:w7.drew.cell? ⟨w.heap.size,1,U⟩=M (V U 0 0):=ay RJ
  have f0:w7.drew.frozen? ⟨w.heap.size,0,U⟩=false:=RJ.frozen _;have f1:w7.drew.frozen? ⟨w.heap.size,1,U⟩=false:=RJ.frozen _;have hD1:=RJ.aJ 0 (I J 0);have hD2:=hD1.aJ 1 (V U 0 0);have z0:=hD1.cell 0;have z1:=hD2.cell 1;simp only[eY] at z0 z1;clear hD1 hD2;have qH:((w7.drew.setCell ⟨w.heap.size,0,U⟩ (I J 0)).setCell ⟨w.heap.size,1,U⟩ (V U 0 0)).cell? ⟨w.heap.size+2,3,U⟩=M (I J QO):=by
   have e1:¬ (w.heap.size+2=w.heap.size):=ah;rw[World.cell?_setCell_other _ _ _ _ (λe=>e1 (congrArg Addr.block e).symm),World.cell?_setCell_other _ _ _ _ (λe=>e1 (congrArg Addr.block e).symm)];exact k3
  have pW:ak (Ix w.heap.size w w7.drew):=aeI.o.drew;refine aO.start (S:=λwx=>wx.cell? ⟨w.heap.size+2,3,U⟩=M (I J QO)) 6 aL aL ?Sd0 (λaA hB=>?_)
  case Sd0=>((try dsimp only);exact HS9.o)
  have afw:w.heap.size<w7.drew.heap.size:=ah5;clear HS9;generalize w7.drew=W5 at *
  iterate 5 (refine aO.tk hB aA ?_;try simp only[aP])
  refine aO.bU (i:=5) rfl bM aL (λK hK=>?_);go_simp;refine hK.out _ _ (by (try dsimp only);exact qH) ?_;clear hK K aA;intro aA
  (try simp only[aP])
  refine aO.gL rfl aL aL (λK hK=>?_);go_simp;refine hK.out _ _ ?_;clear hK K;clear RJ qH;go_wp2;refine bodyPost_ret (v:=.tuple #[fJ 0 U 0 0,I J QO]) (by simp[results,results58,go_sem,z0,z1]) rfl ?_;rw[HPV.o];exact⟨aew (R:=[]) pW.o (RT.empty _ _ (Jn _) _) afw _ _,λh=>by simp at hcb;exact absurd h hcb⟩
theorem jB(h:eF v l r=true):0<=v/\v<=3/\dw l v=true/\dw r v=true:=by
 unfold eF at h;simp only[Mb] at h;have h3:=bH.1 h.1.1.1.1;exact⟨h3.1,h3.2,h.1.1.1.2,h.1.1.2⟩
end
end Go.Proofs.YtgfkglhelfkpoaaGreat
open Go.Proofs.Tryz
namespace Go.Proofs.YtgfkglhelfkpoaaGreat
section
open Go.RowKit Plain
theorem Tryz.cellsRu:Tryz.prog.cellsOf 26=11:=aL
variable{H:Type}{w:Iv}{fuel:Nat}{cs:List I1}
theorem zT{enc:TypeId×I1->H}{x:DataW H×List MemPlace}(h:DataW.trod enc Tryz.prog w 0 (λ_=>true) true fuel 24 cs=M x) :
  ∃ (y:Nd) (A:Option I3) (cap:Nat),cs=[I J y.k,I J y.n,I J y.p,I J y.c,V A y.ks.len cap]/\y.ks.len<=cap/\cap<=I2/\bJ w w.heap.size y.ks A:=by
 obtain⟨ys,n',_,_,hcl,hlen,hf⟩:=DataW.trod_struct underlying24 h;rw[Tryz.cellsLE] at hcl
 match cs,hcl,ys,hlen with
 | [c0,c1,c2,c3,c4],_,[y0,y1,y2,y3,y4],_=>
  have h0:DataW.trod enc Tryz.prog w 0 (λ_=>true) true n' 2 (([c0,c1,c2,c3,c4].drop 0).take (Tryz.prog.cellsOf 2))=M y0:=hf 0 _ rfl;have h1:DataW.trod enc Tryz.prog w 0 (λ_=>true) true n' 2 (([c0,c1,c2,c3,c4].drop 1).take (Tryz.prog.cellsOf 2))=M y1:=hf 1 _ rfl;have h2:DataW.trod enc Tryz.prog w 0 (λ_=>true) true n' 2 (([c0,c1,c2,c3,c4].drop 2).take (Tryz.prog.cellsOf 2))=M y2:=hf 2 _ rfl
  have h3:DataW.trod enc Tryz.prog w 0 (λ_=>true) true n' 2 (([c0,c1,c2,c3,c4].drop 3).take (Tryz.prog.cellsOf 2))=M y3:=hf 3 _ rfl;have h4:DataW.trod enc Tryz.prog w 0 (λ_=>true) true n' 22 (([c0,c1,c2,c3,c4].drop 4).take (Tryz.prog.cellsOf 22))=M y4:=hf 4 _ rfl;rw[Tryz.cellsI] at h0 h1 h2 h3;rw[Tryz.cellsES] at h4;obtain⟨n0,e0,_⟩:=DataW.trod_int underlying2 (x:=y0) h0;obtain⟨n1,e1,_⟩:=DataW.trod_int underlying2 (x:=y1) h1
  obtain⟨n2,e2,_⟩:=DataW.trod_int underlying2 (x:=y2) h2;obtain⟨n3,e3,_⟩:=DataW.trod_int underlying2 (x:=y3) h3;obtain⟨A,cap,es,e4,hcap,hmx,hsl⟩:=Dn _ _ _ h4;simp at e0 e1 e2 e3 e4;subst e0 e1 e2 e3 e4;exact⟨⟨n0,n1,n2,n3,es⟩,A,cap,rfl,hcap,hmx,hsl⟩
theorem Sb{enc:TypeId×I1->H}{x:DataW H×List MemPlace}(h:DataW.trod enc Tryz.prog w 0 (λ_=>true) true fuel 26 cs=M x) :
  ∃ (v:Int) (l r:Nd) (KL KR:Option I3) (cl cr:Nat),cs=[I J v,I J l.k,I J l.n,I J l.p,I J l.c,V KL l.ks.len cl,I J r.k,I J r.n,I J r.p,I J r.c,V KR r.ks.len cr] /\
   bJ w w.heap.size l.ks KL/\l.ks.len<=cl/\cl<=I2/\bJ w w.heap.size r.ks KR/\r.ks.len<=cr/\cr<=I2:=by
 obtain⟨ys,n',_,_,hcl,hlen,hf⟩:=DataW.trod_struct underlying26 h;rw[Tryz.cellsRu] at hcl
 match cs,hcl,ys,hlen with
 | [c0,c1,c2,c3,c4,c5,c6,c7,c8,c9,c10],_,[y0,y1,y2],_=>
  have h0:DataW.trod enc Tryz.prog w 0 (λ_=>true) true n' 2 (([c0,c1,c2,c3,c4,c5,c6,c7,c8,c9,c10].drop 0).take (Tryz.prog.cellsOf 2))=M y0:=hf 0 _ rfl;have h1:DataW.trod enc Tryz.prog w 0 (λ_=>true) true n' 24 (([c0,c1,c2,c3,c4,c5,c6,c7,c8,c9,c10].drop 1).take (Tryz.prog.cellsOf 24))=M y1:=hf 1 _ rfl;have h2:DataW.trod enc Tryz.prog w 0 (λ_=>true) true n' 24 (([c0,c1,c2,c3,c4,c5,c6,c7,c8,c9,c10].drop 6).take (Tryz.prog.cellsOf 24))=M y2:=hf 2 _ rfl
  rw[Tryz.cellsI] at h0;rw[Tryz.cellsLE] at h1 h2;obtain⟨n0,e0,_⟩:=DataW.trod_int underlying2 (x:=y0) h0;obtain⟨l,KL,cl,e1,a1,a2,a3⟩:=zT h1;obtain⟨r,KR,cr,e2,b1,b2,b3⟩:=zT h2;simp at e0 e1 e2;obtain⟨rfl,rfl,rfl,rfl,rfl⟩:=e1;obtain⟨rfl,rfl,rfl,rfl,rfl⟩:=e2;subst e0;exact⟨n0,l,r,KL,KR,cl,cr,rfl,a3,a1,a2,b3,b1,b2⟩
structure Ml (w:Iv) (l:Nd) (KL:Option I3) (cl:Nat) (r:Nd) (KR:Option I3) (cr:Nat):Prop where
 left:bJ w w.heap.size l.ks KL
 right:bJ w w.heap.size r.ks KR
 ll:l.ks.len<=cl
 lm:cl<=I2
 rl:r.ks.len<=cr
 rm:cr<=I2
 sz:l.ks.size+r.ks.size<=1048576
variable{hi:Nat}
theorem Hq{lo:Nat}{l r:Nd}{g1 g2:Nat}(h:jd w lo hi (rP lo hi l r g1 g2))(hz:l.ks.size+r.ks.size<=1048576):Ml w l (M ⟨g1,0,U⟩) l.ks.len r (M ⟨g2,0,U⟩) r.ks.len:=by
 have h1:=Es.aF l.ks;have h2:=Es.aF r.ks;exact⟨h.now.left h.size,h.now.right h.size,Jn _,by unfold I2;omega,Jn _,by unfold I2;omega,hz⟩
theorem Cc(v:Int)(l r:Nd)(KL KR:Option I3)(cl cr B:Nat)(w:Iv)(h:bJ w B l.ks KL/\bJ w B r.ks KR)(hB:B<=w.heap.size)(hz:l.ks.size+r.ks.size<=1048576) :
  I0 Tryz.prog 12 #[rZ v l KL cl r KR cr] w λe w'=>∃ g1 g2 lo,w.heap.size<=lo/\e=If (rZ v l (M ⟨g1,0,U⟩) l.ks.len r (M ⟨g2,0,U⟩) r.ks.len)/\jd w' lo w'.heap.size (rP lo w'.heap.size l r g1 g2)/\Ix w.heap.size w w':=
 (OQ v l r KL KR cl cr B w h.1 h.2 hB ah ah).mono λe w' ⟨g1,g2,h1,h2,h3⟩=>
  ⟨g1,g2,w.heap.size+3,ah,h1,⟨by obtain⟨mid,a1,a2,_,a4,a5,_⟩:=h2;omega,Jn _,h2,λw1 w2 h hb=>h.keep hb⟩,h3⟩
theorem aa3(v:Int)(l r:Nd){g1 g2 g3 g4 lo hi rY hi' cl cr cl' cr':Nat}{w:Iv}(h:jd w lo hi (rP lo hi l r g1 g2))(h':jd w rY hi' (rP rY hi' l r g3 g4))(hz:l.ks.size+r.ks.size<=1048576) :
  I0 Tryz.prog 15 #[rZ v l (M ⟨g1,0,U⟩) cl r (M ⟨g2,0,U⟩) cr,rZ v l (M ⟨g3,0,U⟩) cl' r (M ⟨g4,0,U⟩) cr'] w λe w'=>e=If (.bool true)/\Ix w.heap.size w w':=
 Nc v l r _ _ _ _ cl cr cl' cr' w.heap.size w (h.now.left h.size) (h.now.right h.size) (h'.now.left h'.size) (h'.now.right h'.size) (Jn _) ah ah
theorem zR{b:Nat}{ks:Es}(k n p c:Int)(cap:Nat){y:Int}{w:Iv}(h:iN w ks (b+1) hi b 0)(hs:hi<=w.heap.size)(hb:b<w.heap.size)(hz:ks.size<=1048576)(y0:0<=y)(y1:y<=1000000000) :
  I0 Tryz.prog 29 #[exV k n p c (M ⟨b,0,U⟩) ks.len cap,I J y] w λe w'=>e=If (I J (y+4*ks.size))/\aC (λq=>q=b∨(b+1<=q/\q<hi)) w w':=by
 have hg:Ix w.heap.size w (w.alloc (Is #[I J k,I J n,I J p,I J c,V (M ⟨b,0,U⟩) ks.len cap] 33)):=aV;have h2:=h.keep (aN.of_block (hg.block b hb) _ _) (λq _ q2=>hg.block q ah);have HM:=aj (wu (ks.size+1) ks ah (M ⟨b,0,U⟩) cap b (b+1) hi y _ (λ_=>rfl) h2 ah (Mp hs hg.size) hz y0 ah);have HO:ak (aC (λq=>q=b∨(b+1<=q/\q<hi)) w (w.alloc (Is #[I J k,I J n,I J p,I J c,V (M ⟨b,0,U⟩) ks.len cap] 33))):=aC.of_below hg
 clear h h2 hg;go_enter func29,ntmps29;go_wp2_with fail;refine HM.o.mono ?_;rintro e w1 ⟨rfl,fC⟩;have dZ:=aj (HO.o.trans (fC.sub (T:=λq=>q=b∨(b+1<=q/\q<hi)) λq e=>e.elim (λe=>.inl e.2) .inr));clear fC;go_wp2;go_ret;exact⟨rfl,dZ.o⟩
end
end Go.Proofs.YtgfkglhelfkpoaaGreat
