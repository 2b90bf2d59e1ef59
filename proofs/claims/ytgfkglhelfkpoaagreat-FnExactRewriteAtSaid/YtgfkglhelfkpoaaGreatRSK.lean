/- Parts of the proof. -/
import Derived.Test.YtgfkglhelfkpoaaGreatRSJ
import Derived.Test.YtgfkglhelfkpoaaGreatRSI
set_option maxRecDepth 100000
set_option maxHeartbeats 8000000
open Go.Proofs.Tryz
open Go.Value renaming int→I,slice→V
open Go.IntKind renaming i64→J
open Option renaming some→M,none→U
open Go.Ending renaming returned→If
open Go.Obj renaming cells→Is
open Go renaming World→Iv,Calls→I0,Value→I1,Addr→I3
open Go.RowKit renaming Below→Ix
open Nat renaming le_refl→Jn,le_trans→Mp
open Go.RowKit.Below renaming refl→Jx,heap_setCell→J1
open List renaming length_map→My
namespace Go.Proofs.YtgfkglhelfkpoaaGreat
section
open Go.RowKit Plain
open Classical in
noncomputable def Ke (ts us:List av):List av×Bool:=if I6 ts us then ([],false) else (kD (bX ts us),true)
variable{ts us:List av}
theorem Kg(h:I6 ts us):Ke ts us=([],false):=by unfold Ke;rw[if_pos h]
theorem BU(h:¬ I6 ts us):Ke ts us=(kD (bX ts us),true):=by unfold Ke;rw[if_neg h]
def agT(u:Int)(ts us:List av)(w:Iv)(e:Ending)(w':Iv):Prop:=
 ∃ A cp R ok,Ke ts us=(R,ok)/\e=If (.tuple #[fJ u A R.length cp,.bool ok])/\gT w' w.heap.size (V A R.length cp) R/\Ix w.heap.size w w'
variable{w:Iv}{n:Nat}
theorem G5{W0 wx:Iv}{u:Int}{m cp:Nat}{A:Option I3}{L R:List av}{ok:Bool}(hb0:Ix w.heap.size w W0)(hs:W0.heap.size=w.heap.size+1+1)(h:D9 W0 (w.heap.size+1) (w.heap.size+1+1) u L n R m cp A wx)(hm:Ke ts us=(R,ok)) :
  agT u ts us w (If (.tuple #[fJ u A m cp,.bool ok])) ((wx.setCell ⟨w.heap.size,0,U⟩ (I J u)).setCell ⟨w.heap.size,1,U⟩ (V A m cp)):=by
 have hlen:=h.len;have hO2:aC (λq=>q=w.heap.size) wx ((wx.setCell ⟨w.heap.size,0,U⟩ (I J u)).setCell ⟨w.heap.size,1,U⟩ (V A m cp)):=
  ⟨rfl,rfl,rfl,by simp[World.setCell],λq _ hq=>(J1 _ _ _ _ hq).trans (J1 _ _ _ _ hq)⟩
 have hrow:=h.row'.only hO2 (λq hq e=>by have e':q=w.heap.size:=e;omega);have hbw:Ix w.heap.size w wx:=hb0.trans (h.only.below ah (λk hk=>ah));exact⟨A,cp,R,ok,hm,by rw[hlen],hrow.lower ah,(hbw.setCell (p:=⟨w.heap.size,0,U⟩) (Jn _) _).setCell (p:=⟨w.heap.size,1,U⟩) (Jn _) _⟩
def tC(n:Nat)(E F:List Int)(v:Nat):List Int:=mk n (λk=>if k<v then cf E k+cf F k else cf E k)
theorem kS(n:Nat)(E F:List Int)(v:Nat):(tC n E F v).length=n:=iV _ _
variable{E F:List Int}
theorem R4(h:E.length=n):tC n E F 0=E:=by
 refine List.ext_getElem (by rw[kS,h]) λk h1 h2=>?_
 simp only[tC,mk,List.getElem_map,List.getElem_range,Nat.not_lt_zero,if_false];exact (ji h2).symm
variable{v:Nat}
theorem abw(h:v<n):cf (tC n E F v) v=cf E v:=by
 unfold tC;rw[Pz h,if_neg (Nat.lt_irrefl v)]
theorem Zo(h:v<n):(tC n E F v).set v (cf E v+cf F v)=tC n E F (v+1):=by
 refine List.ext_getElem (by rw[List.length_set,kS,kS]) λk h1 h2=>?_
 rw[List.getElem_set]
 by_cases e:v=k
 ·subst e
  rw[if_pos rfl,ji h2];unfold tC;rw[Pz h,if_pos (Nat.lt_succ_self v)]
 ·rw[if_neg e]
  rw[kS] at h2;rw[ji (by rw[kS];exact h2),ji (by rw[kS];exact h2)];unfold tC;rw[Pz h2,Pz h2]
  by_cases hk:k<v
  ·rw[if_pos hk,if_pos ah]
  ·rw[if_neg hk,if_neg ah]
theorem Zn(h1:E.length=n)(h2:F.length=n):tC n E F n=gM E F:=by
 rw[<-Qg h1 h2];unfold tC mk;refine List.map_congr_left λk hk=>?_
 rw[if_pos (List.mem_range.1 hk)]
theorem afE{w':Iv}{B b1 b2 b3 b4 b5 o1 o2 o3 o4 o5:Nat}{x1 x2 x3 x4 x5:I1}(h:w.cell? ⟨b1,o1,U⟩=M x1/\w.cell? ⟨b2,o2,U⟩=M x2/\w.cell? ⟨b3,o3,U⟩=M x3/\w.cell? ⟨b4,o4,U⟩=M x4/\w.cell? ⟨b5,o5,U⟩=M x5)(hl:b1<B/\b2<B/\b3<B/\b4<B/\b5<B)(hb:Ix B w w') :
  w'.cell? ⟨b1,o1,U⟩=M x1/\w'.cell? ⟨b2,o2,U⟩=M x2/\w'.cell? ⟨b3,o3,U⟩=M x3/\w'.cell? ⟨b4,o4,U⟩=M x4/\w'.cell? ⟨b5,o5,U⟩=M x5:=
 ⟨(hb.cell (p:=⟨b1,o1,U⟩) hl.1).trans h.1,(hb.cell (p:=⟨b2,o2,U⟩) hl.2.1).trans h.2.1,(hb.cell (p:=⟨b3,o3,U⟩) hl.2.2.1).trans h.2.2.1,(hb.cell (p:=⟨b4,o4,U⟩) hl.2.2.2.1).trans h.2.2.2.1,(hb.cell (p:=⟨b5,o5,U⟩) hl.2.2.2.2).trans h.2.2.2.2⟩
theorem N8(b1 o1 b2 o2:Nat)(u:Int)(A1 A2:Option I3)(c1 c2:Nat)(ts us:List av)(w:Iv)(h00:w.cell? ⟨b1,o1,U⟩=M (I J u))(h01:w.cell? ⟨b1,o1+1,U⟩=M (V A1 ts.length c1))
  (h11:w.cell? ⟨b2,o2+1,U⟩=M (V A2 us.length c2)) (hT:eX w A1 ts) (hU:eX w A2 us) (dh:aQ u ts=true) (hok2:aQ u us=true) :
  I0 Tryz.prog 248 #[ptr b1 o1,ptr b2 o2] w (agT u ts us w):=by
 have hl1:=(bC dh).2.2;have hl2:=(bC hok2).2.2;obtain⟨n,hn⟩:=aD u.toNat
 have abm:n<=12:=by have:=bC dh;omega
 have Ti:ak (jG n ts):=by rw[hn];exact bS dh
 have iD:ak (jG n us):=by rw[hn];exact bS hok2
 have aaz:=aj dh;have aaA:=aj hok2;have oJ:ak (∀ i j,i<=ts.length->j<=us.length->(bX (ts.take i) us++(us.take j).map (fQ (aR ts i))).length<=20000):=λi j h1 h2=>by
  rw[List.length_append,zU,My,List.length_take,List.length_take];have:(min i ts.length)*us.length<=120*120:=Nat.mul_le_mul ah hl2;omega
 have amb:b1<w.heap.size:=World.block_lt_of_cell? _ _ h00;have amc:b2<w.heap.size:=World.block_lt_of_cell? _ _ h11;obtain⟨W0,aZ⟩:=aD ((w.alloc (Is #[I J 0,V U 0 0] 86)).alloc (Is #[I J u,V U 0 0] 86))
 have CS:W0.heap.size=w.heap.size+1+1:=by rw[aZ];simp
 have HB0:ak (Ix w.heap.size w W0):=by show Ix _ _ _;rw[aZ];go_grown
 have D_:ak (au W0 w.heap.size 86 [I J 0,V U 0 0]):=by
  show au _ _ _ _;rw[aZ];exact (au.new w 86 [I J 0,V U 0 0]).next aV
 have HST:ak (D9 W0 (w.heap.size+1) (w.heap.size+1+1) u [] n [] 0 0 U W0):=by
  refine⟨?_,rfl,gT.EA _ _,Canon.nil,λe=>rfl,λt ht=>by simp at ht,aC.refl _ _,ah,CS.symm⟩;rw[aZ];have:=au.new (w.alloc (Is #[I J 0,V U 0 0] 86)) 86 [I J u,V U 0 0];simpa using this
 have HT:=aj hT;have HU:=aj hU;have HD1:=aj (λwx (h:Ix W0.heap.size W0 wx)=>sO b1 o1 u A1 c1 ts wx (aB (aB h01 HB0.o) h) ((HT.o.below HB0.o).below h) dh);have HD2:=aj (λwx (h:Ix W0.heap.size W0 wx)=>sO b2 o2 u A2 c2 us wx (aB (aB h11 HB0.o) h) ((HU.o.below HB0.o).below h) hok2);have HQ:ak (W0.cell? ⟨b1,o1+1,U⟩=M (V A1 ts.length c1)/\W0.cell? ⟨b2,o2+1,U⟩=M (V A2 us.length c2)):=⟨aB h01 HB0.o,aB h11 HB0.o⟩
 have q1:=HQ.o.1;have q2:=HQ.o.2;have p0:W0.cell? ⟨w.heap.size+1,0,U⟩=M (I J u):=ay HST.o.box
 have p1:W0.cell? ⟨w.heap.size+1,1,U⟩=M (V U 0 0):=ay HST.o.box
 have y0:W0.cell? ⟨w.heap.size,0,U⟩=M (I J 0):=ay D_.o
 have y1:W0.cell? ⟨w.heap.size,1,U⟩=M (V U 0 0):=ay D_.o
 have f0:W0.frozen? ⟨w.heap.size,0,U⟩=false:=D_.o.frozen _;have f1:W0.frozen? ⟨w.heap.size,1,U⟩=false:=D_.o.frozen _;have z0:=(D_.o.aJ 0 (I J u)).cell 0;have z1:=((D_.o.aJ 0 (I J u)).aJ 1 (V U 0 0)).cell 1;simp only[eY] at z0 z1;have Tt:=aj CS;have dI:=aj aZ;have HQW:ak (w.cell? ⟨b1,o1,U⟩=M (I J u)/\w.cell? ⟨b1,o1+1,U⟩=M (V A1 ts.length c1)/\w.cell? ⟨b2,o2+1,U⟩=M (V A2 us.length c2)):=⟨h00,h01,h11⟩
 clear hT hU dh hok2 aZ CS hn h01 h11
 by_cases ht0:ts.length=0
 ·have HE:=G5 (ts:=ts) (us:=us) HB0.o Tt.o HST.o (ok:=true) (by
   have e:ts=[]:=List.length_eq_zero_iff.1 ht0;rw[BU (λh=>h.1 e),e,show bX [] us=[] from rfl,Dj Canon.nil])
  have HE:=aj HE;have htz:(ts.length:Int)=0:=ah;have h01:=HQW.o.2.1;go_enter func248,ntmps248;go_upto_region 2 with fail;rw[<-dI.o];go_wp2;refine bodyPost_ret (v:=.tuple #[fJ u U 0 0,.bool true]) (by simp[results,results248,go_sem,z0,z1]) rfl ?_;exact HE.o
 by_cases hu0:us.length=0
 ·have HE:=G5 (ts:=ts) (us:=us) HB0.o Tt.o HST.o (ok:=true) (by
   have e:us=[]:=List.length_eq_zero_iff.1 hu0;have e2:bX ts []=[]:=List.length_eq_zero_iff.1 (by rw[zU];rfl);rw[BU (λh=>h.2.1 e),e,e2,Dj Canon.nil])
  have HE:=aj HE;have htz:(us.length:Int)=0:=ah;have htn:¬ (ts.length:Int)=0:=ah;go_enter func248,ntmps248;go_upto_region 2 with fail;rw[<-dI.o];go_wp2;refine bodyPost_ret (v:=.tuple #[fJ u U 0 0,.bool true]) (by simp[results,results248,go_sem,z0,z1]) rfl ?_;exact HE.o
 have hd1:=Qf aaz.o ts.length (Jn _);have hd2:=Qf aaA.o us.length (Jn _);have HBP:ak (I6 ts us ↔ 12<kZ ts ts.length+kZ us us.length):=⟨λh=>h.2.2,λh=>⟨λe=>ht0 (by rw[e];rfl),λe=>hu0 (by rw[e];rfl),h⟩⟩
 obtain⟨e1,he1⟩:=aD (kZ ts ts.length)
 obtain⟨e2,he2⟩:=aD (kZ us us.length)
 rw[<-he1] at hd1 HD1 HBP;rw[<-he2] at hd2 HD2 HBP;have ak7:IntKind.i64.wrap (e1+e2)=e1+e2:=by rw[IntKind.wrap_i64];omega
 have htn:¬ (ts.length:Int)=0:=ah;have Zc:¬ (us.length:Int)=0:=ah;have htb:((ts.length:Int)==0)=false:=beq_eq_false_iff_ne.2 htn;have hub:((us.length:Int)==0)=false:=beq_eq_false_iff_ne.2 Zc;clear he1 he2
 by_cases Rx:12<e1+e2
 ·have HE:=aj (G5 (ts:=ts) (us:=us) HB0.o Tt.o HST.o (ok:=false) (Kg (HBP.o.2 Rx)))
  go_enter func248,ntmps248;go_upto_region 2 with fail;rw[<-dI.o];go_wp2_with fail;refine (HD1.o _ (Jx _ _)).mono ?_;rintro e w' ⟨rfl,rfl⟩;go_wp2_with fail;refine (HD2.o _ (Jx _ _)).mono ?_;rintro e w' ⟨rfl,rfl⟩;go_wp2;refine bodyPost_ret (v:=.tuple #[fJ u U 0 0,.bool false]) (by simp[results,results248,go_sem,z0,z1]) rfl ?_;exact HE.o
 have HMO:ak (Ke ts us=(kD (bX ts us),true)):=BU (λh=>Rx (HBP.o.1 h));have ahJ:e1+e2<=12:=ah;go_enter func248,ntmps248;go_upto_region 2 with fail;rw[<-dI.o];go_wp2_with fail;refine (HD1.o _ (Jx _ _)).mono ?_;rintro e w' ⟨rfl,rfl⟩;go_wp2_with fail;refine (HD2.o _ (Jx _ _)).mono ?_;rintro e w' ⟨rfl,rfl⟩;clear y0 y1 f0 f1 z0 z1 p0 p1;go_wp2_with fail
 clear HD1 HD2 hd1 hd2 HBP Rx ahJ ak7 q1 q2 h00
 go_loopg [7] (ts.length+1) (λkx s7 wr=>∃ (i:Nat) (out:List av) (m cp:Nat) (A':Option I3),s7=I J (i:Int)/\i<=ts.length/\ts.length - i<kx/\ak (m<=(bX (ts.take i) us).length)/\ak (D9 W0 (w.heap.size+1) (w.heap.size+1+1) u (bX (ts.take i) us) n out m cp A' wr))
 case atStart=>exact⟨0,[],0,0,U,by first | rfl | go_num,ah,ah,Nat.zero_le _,HST⟩
 case round=>
  clear HST;obtain⟨i,out,m,cp,A',rfl,hin,hkx,HM,HG⟩:=hrel;obtain⟨wo,rfl⟩:=aD wr
  have jF:ak (Ix w.heap.size w wo):=HB0.o.trans (HG.o.only.below (by have:=Tt.o;omega) (λk hk=>ah));have q1:wo.cell? ⟨b1,o1+1,U⟩=M (V A1 ts.length c1):=aB HQW.o.2.1 jF.o;have q2:wo.cell? ⟨b2,o2+1,U⟩=M (V A2 us.length c2):=aB HQW.o.2.2 jF.o
  by_cases hlt:i<ts.length
  ·have hiz:(i:Int)<(ts.length:Int):=ah
   obtain⟨bt,ot,Ai,ci,rfl,Iu,Lh,Li,tI,_⟩:=HT.o.at_ hlt;have hlen:(aR ts i).1.length=n:=Ti.o _ (eZ hlt);have hok1:=bV (bZ aaz.o (eZ hlt));rw[hlen] at Lh;obtain⟨c,hc⟩:=aD ((aR ts i).2)
   obtain⟨E,hE⟩:=aD ((aR ts i).1)
   rw[<-hc] at Li;have HEB:ak (∀ k,0<=cf E k/\cf E k<=12):=λk=>by rw[hE];exact iU hok1.2.2.2.1 k
   have HIE:ak (Ints w Ai E):=by rw[hE];exact tI
   have lH:ak (E.length=n):=by rw[hE];exact hlen
   have HE:ak ((E,c)=aR ts i):=by show _=_;rw[hE,hc]
   have HTQ:ak (w.cell? ⟨bt,ot+i*2,U⟩=M (V Ai n ci)/\w.cell? ⟨bt,ot+i*2+1,U⟩=M (I J c)):=⟨Lh,Li⟩
   clear hok1 hlen tI hc hE Lh Li;have Vr:ak (m<=(bX (ts.take i) us++(us.take 0).map (fQ (aR ts i))).length):=by show _<=_;have:=HM.o;simpa using this
   have Qx:ak (D9 W0 (w.heap.size+1) (w.heap.size+1+1) u (bX (ts.take i) us++(us.take 0).map (fQ (aR ts i))) n out m cp A' wo):=HG.o.same (by simp);clear HM HG;go_wp2_with fail
   go_loopg [8] (us.length+1) (λky s8 wr=>∃ (k:Nat) (out:List av) (m cp:Nat) (A':Option I3),s8=I J (k:Int)/\k<=us.length/\us.length - k<ky/\ak (m<=(bX (ts.take i) us++(us.take k).map (fQ (aR ts i))).length)/\ak (D9 W0 (w.heap.size+1) (w.heap.size+1+1) u (bX (ts.take i) us++(us.take k).map (fQ (aR ts i))) n out m cp A' wr))
   case atStart=>exact⟨0,out,m,cp,A',by first | rfl | go_num,ah,ah,Vr,Qx⟩
   case round=>
    clear Vr Qx q1 q2 jF;obtain⟨k,out,m,cp,A',rfl,hkn,hky,HM,HG⟩:=hrel;obtain⟨wi,rfl⟩:=aD wr
    have jF:ak (Ix w.heap.size w wi):=HB0.o.trans (HG.o.only.below (by have:=Tt.o;omega) (λk hk=>ah));have q1:wi.cell? ⟨b1,o1+1,U⟩=M (V (M ⟨bt,ot,U⟩) ts.length c1):=aB HQW.o.2.1 jF.o;have q2:wi.cell? ⟨b2,o2+1,U⟩=M (V A2 us.length c2):=aB HQW.o.2.2 jF.o;have t0:=aB HTQ.o.1 jF.o
    by_cases GI:k<us.length
    ·have hkz:(k:Int)<(us.length:Int):=ah
     obtain⟨bu,ou,Aj,cj,rfl,hbu,t2',t3',tJ,_⟩:=HU.o.at_ GI;have hlen:(aR us k).1.length=n:=iD.o _ (eZ GI);have hok1:=bV (bZ aaA.o (eZ GI));rw[hlen] at t2';obtain⟨d,hd⟩:=aD ((aR us k).2)
     obtain⟨F,hF⟩:=aD ((aR us k).1)
     rw[<-hd] at t3';have Tf:ak (∀ k,0<=cf F k/\cf F k<=12):=λk=>by rw[hF];exact iU hok1.2.2.2.1 k
     have Pb:ak (Ints w Aj F):=by rw[hF];exact tJ
     have HFL:ak (F.length=n):=by rw[hF];exact hlen
     have HPT:ak ((gM E F,tm c d)=fQ (aR ts i) (aR us k)):=by
      show _=_;rw[<-HE.o,hF,hd];rfl
     have HUQ:ak (w.cell? ⟨bu,ou+k*2,U⟩=M (V Aj n cj)/\w.cell? ⟨bu,ou+k*2+1,U⟩=M (I J d)):=⟨t2',t3'⟩
     clear hok1 hlen tJ hd hF t2' t3';have nJ:ak (I0 Tryz.prog 244 #[V Ai n ci] wi λe w'=>∃ Ae ce,e=If (V Ae n ce)/\bg w' wi.heap.size (V Ae n ce) (tC n E F 0)/\Ix wi.heap.size wi w'):=by
      have h:=Dp Ai ci E wi (HIE.o.below jF.o) (by rw[lH.o];omega);rw[lH.o] at h;refine h.mono λe w' ⟨Ac,cc,h1,h2,h3⟩=>⟨Ac,cc,by rw[lH.o] at h1;exact h1, ?_,h3⟩
      rw[R4 lH.o];rw[lH.o] at h2;exact h2
     go_wp2_with fail;refine nJ.o.mono ?_;rintro e w2 ⟨Ae,ce,rfl,hrow,hb2⟩;have iE:=aj hrow;have HB2:=aj hb2;clear hrow hb2 nJ q1 q2 t0;go_wp2_with fail
     go_loopg [10] (n+1) (λkz Hy wr=>∃ (v:Nat),Hy=I J (v:Int)/\v<=n/\n - v<kz/\ak (bg wr wi.heap.size (V Ae n ce) (tC n E F v))/\ak (Ix wi.heap.size wi wr))
     case atStart=>exact⟨0,by first | rfl | go_num,ah,ah,iE,HB2⟩
     case round=>
      clear iE HB2;obtain⟨v,rfl,hvn,amB,HR,HB⟩:=hrel;have D_:ak (Ix w.heap.size w wr):=aH jF.o HB.o;have r2:wr.cell? ⟨b2,o2+1,U⟩=M (V (M ⟨bu,ou,U⟩) us.length c2):=aB HQW.o.2.2 D_.o
      by_cases abr:v<n
      ·have hvz:(v:Int)<(n:Int):=ah
       have hRl:bg wr wi.heap.size (V Ae (tC n E F v).length ce) (tC n E F v):=by rw[kS];exact HR.o
       obtain⟨ge,rfl,hg1,hg2,hg3,hg4⟩:=hRl.at_ (n:=n) (kS n E F v).symm abr;rw[abw abr] at hg3;obtain⟨bf,Ld,rfl,hbf,hcf⟩:=(Pb.o.below D_.o).zC (by rw[HFL.o];omega);have e1:=hcf v (by rw[HFL.o];exact abr);have t2:=aB HUQ.o.1 D_.o;have hx:=HEB.o v;have hy:=Tf.o v;have HNX:ak (bg (wr.setCell ⟨ge,v,U⟩ (I J (cf E v+cf F v))) wi.heap.size (V (M ⟨ge,0,U⟩) n ce) (tC n E F (v+1))):=by
        have h:=hRl.setAt v (cf E v+cf F v);rw[Zo abr,kS] at h;exact h
       obtain⟨x,GN⟩:=aD (cf E v)
       obtain⟨y,hyy⟩:=aD (cf F v)
       rw[<-GN] at hx hg3 HNX;rw[<-hyy] at e1 hy HNX;have hws:IntKind.i64.wrap (x+y)=x+y:=by rw[IntKind.wrap_i64];omega
       have HBN:ak (Ix wi.heap.size wi (wr.setCell ⟨ge,v,U⟩ (I J (x+y)))):=HB.o.setCell (p:=⟨ge,v,U⟩) hg1 _;have gQ:ak (wr.cell? ⟨ge,v,U⟩=M (I J x)/\wr.cell? ⟨b2,o2+1,U⟩=M (V (M ⟨bu,ou,U⟩) us.length c2)/\wr.cell? ⟨bu,ou+k*2,U⟩=M (V (M ⟨bf,Ld,U⟩) n cj)/\wr.cell? ⟨bf,Ld+v,U⟩=M (I J y)):=⟨hg3,r2,t2,e1⟩
       clear hRl hcf GN hyy HR HB;go_wp2_with fail;refine aO.start (S:=(λwx=>wx.cell? ⟨ge,v,U⟩=M (I J x)/\wx.cell? ⟨b2,o2+1,U⟩=M (V (M ⟨bu,ou,U⟩) us.length c2)/\wx.cell? ⟨bu,ou+k*2,U⟩=M (V (M ⟨bf,Ld,U⟩) n cj)/\wx.cell? ⟨bf,Ld+v,U⟩=M (I J y))) 17 aL aL ?S0 (λaA hB=>?_)
       case S0=>((try dsimp only);exact gQ.o)
       iterate 17 (refine aO.tk hB aA ?_;try simp only[aP])
       refine aO.last rfl aL aL (λK hK=>?_);go_simp;refine hK.out _ _ ?_;clear hK K;have Vw:ak (bg (wr.setCell ⟨ge,v,U⟩ (I J (x+y))).drew wi.heap.size (V (M ⟨ge,0,U⟩) n ce) (tC n E F (v+1))):=HNX.o;have aje:ak (Ix wi.heap.size wi (wr.setCell ⟨ge,v,U⟩ (I J (x+y))).drew):=HBN.o.drew;clear HNX HBN aA;go_wp2
       go_roundg (n - (v+1)+1)
       case measure=>omega
       case rel=>exact⟨v+1,by first | rfl | go_num,ah,ah,Vw,aje⟩
      ·obtain rfl:v=n:=ah
       have hvz:¬ (v:Int)<(v:Int):=ah;have r1:wr.cell? ⟨b1,o1+1,U⟩=M (V (M ⟨bt,ot,U⟩) ts.length c1):=aB HQW.o.2.1 D_.o;have t1:=aB HTQ.o.2 D_.o;have t3:=aB HUQ.o.2 D_.o;have pz:=aj (HG.o.next HB.o);have hp1:wr.cell? ⟨w.heap.size+1,1,U⟩=M (V A' m cp):=ay pz.o.box
       have hpf:wr.frozen? ⟨w.heap.size+1,1,U⟩=false:=pz.o.box.frozen _;have kI:ak (w.heap.size+1<wr.heap.size):=pz.o.box.lt;have BK:ak (bX (ts.take i) us++(us.take k).map (fQ (aR ts i))++[(gM E F,tm c d)]=bX (ts.take i) us++(us.take (k+1)).map (fQ (aR ts i))):=by
        show _=_;rw[HPT.o,List.append_assoc,tq GI]
       have HTM:=aj (λwx=>l6 c d wx);have hbd:=wD c d;have Pf:ak (m<=20000):=Mp HM.o (oJ.o i k ah ah);have agC:ak (I0 Tryz.prog 203 #[V A' m cp,V Ae v ce,I J (tm c d)] wr.drew λe w4=>∃ A4 c4 jM,e=If (V A4 jM.length c4)/\Ix wr.heap.size wr w4/\ak (jM.length<=(bX (ts.take i) us++(us.take (k+1)).map (fQ (aR ts i))).length)/\D9 W0 (w.heap.size+1) (w.heap.size+1+1) u (bX (ts.take i) us++(us.take (k+1)).map (fQ (aR ts i))) v jM jM.length c4 A4 (w4.setCell ⟨w.heap.size+1,1,U⟩ (V A4 jM.length c4))):=by
        have hm:out.length=m:=pz.o.len;have hlenA:(gM E F).length=v:=by rw[gU (by rw[lH.o,HFL.o]),lH.o]
        have hR2:bg wr wi.heap.size (V Ae (gM E F).length ce) (gM E F):=by
         have h:=HR.o;rw[Zn lH.o HFL.o] at h;rw[hlenA];exact h
        have hRI:Ints wr Ae (gM E F):=hR2.JW.ints;have hmx:=Pf.o;have h:=Ql (w.heap.size+1+1) A' Ae cp ce out (gM E F) (tm c d) wr.drew (pz.o.row'.below (Jx _ _).drew) (show w.heap.size+1+1<=wr.drew.heap.size from pz.o.size) (hRI.below (Jx _ _).drew) pz.o.canon (by rw[hlenA];exact pz.o.J3) hbd.1 hbd.2 ah ah;rw[hlenA,hm] at h;refine h.mono λe w4 ⟨A4,c4,jM,h1,h2,h3,h4,h5,h6,h7⟩=>⟨A4,c4,jM,h1,⟨h7.os,h7.tape,h7.output,h7.size,h7.block⟩, ?_, ?_⟩
        ·show _<=_
         rw[<-BK.o,List.length_append];have:=HM.o;simp only[List.length_cons,List.length_nil];omega
        ·exact (D9.put (c:=tm c d) pz.o hlenA h2 h3 h4 h5 (⟨h7.os,h7.tape,h7.output,h7.size,h7.block⟩:Ix wr.heap.size wr w4)).same BK.o
       obtain⟨z,hz⟩:=aD (tm c d)
       rw[<-hz] at agC HTM;have gQ:ak (wr.cell? ⟨w.heap.size+1,1,U⟩=M (V A' m cp)/\wr.cell? ⟨b1,o1+1,U⟩=M (V (M ⟨bt,ot,U⟩) ts.length c1)/\wr.cell? ⟨bt,ot+i*2+1,U⟩=M (I J c)/\wr.cell? ⟨b2,o2+1,U⟩=M (V (M ⟨bu,ou,U⟩) us.length c2)/\wr.cell? ⟨bu,ou+k*2+1,U⟩=M (I J d)):=⟨hp1,r1,t1,r2,t3⟩
       have Ij:ak (w.heap.size+1<wr.heap.size/\b1<wr.heap.size/\bt<wr.heap.size/\b2<wr.heap.size/\bu<wr.heap.size):=by
        have:=D_.o.size;exact⟨kI.o,ah,ah,ah,ah⟩
       clear hz hbd BK HR HG pz HM HPT Pf;go_wp2_with fail;refine aO.start (S:=(λwx=>wx.cell? ⟨w.heap.size+1,1,U⟩=M (V A' m cp)/\wx.cell? ⟨b1,o1+1,U⟩=M (V (M ⟨bt,ot,U⟩) ts.length c1)/\wx.cell? ⟨bt,ot+i*2+1,U⟩=M (I J c)/\wx.cell? ⟨b2,o2+1,U⟩=M (V (M ⟨bu,ou,U⟩) us.length c2)/\wx.cell? ⟨bu,ou+k*2+1,U⟩=M (I J d))) 22 aL aL ?Sq0 (λaA hB=>?_)
       case Sq0=>((try dsimp only);exact gQ.o)
       iterate 19 (refine aO.tk hB aA ?_;try simp only[aP])
       refine aO.step (i:=19) rfl bM aL (λK hK=>?_);go_simp
       go_at_call 125
       refine (HTM.o _).mono ?_;rintro e w' ⟨rfl,rfl⟩;go_wp2_with fail;refine hK.out _ _ (by (try dsimp only);exact aA) ?_;clear hK K aA;intro aA
       (try simp only[aP])
       refine aO.step (i:=20) rfl bM aL (λK hK=>?_);go_simp
       go_at_call 203
       refine agC.o.mono ?_;rintro e w4 ⟨A4,c4,jM,rfl,hb4,HM4,hD4⟩;go_wp2_with fail;refine hK.out _ _ (by (try dsimp only);exact afE gQ.o Ij.o hb4) ?_;clear hK K aA;intro aA
       (try simp only[aP])
       (refine aO.tk hB aA ?_;try simp only[aP])
       have z1:=(hb4.cell (p:=⟨w.heap.size+1,1,U⟩) kI.o).trans hp1;have z2:=(hb4.frozen (p:=⟨w.heap.size+1,1,U⟩) kI.o).trans hpf;refine aO.last rfl aL aL (λK hK=>?_);go_simp;refine hK.out _ _ ?_;clear hK K;have HD4:=aj hD4;clear hD4 hb4 aA;go_wp2
       go_roundg (us.length - (k+1)+1)
       case measure=>omega
       case rel=>exact⟨k+1,jM,_,c4,A4,by first | rfl | go_num,ah,ah,HM4,HD4⟩
    ·obtain rfl:k=us.length:=ah
     have hkz:¬ (us.length:Int)<(us.length:Int):=ah;have Ik:ak (m<=(bX (ts.take (i+1)) us).length):=by show _<=_;have h:=HM.o;rwa [List.take_length,xC hlt] at h
     have pz:ak (D9 W0 (w.heap.size+1) (w.heap.size+1+1) u (bX (ts.take (i+1)) us) n out m cp A' wi):=HG.o.same (by rw[List.take_length,xC hlt]);clear HM HG;go_wp2
     go_roundg (ts.length - (i+1)+1)
     case measure=>omega
     case rel=>exact⟨i+1,out,m,cp,A',by first | rfl | go_num,ah,ah,Ik,pz⟩
  ·obtain rfl:i=ts.length:=ah
   have hb:=HG.o.box;have x0:wo.cell? ⟨w.heap.size+1,0,U⟩=M (I J u):=ay hb
   have x1:wo.cell? ⟨w.heap.size+1,1,U⟩=M (V A' m cp):=ay hb
   have hC:au wo w.heap.size 86 [I J 0,V U 0 0]:=(HG.o.only.block w.heap.size (by have:=Tt.o;omega) ah).trans D_.o;have y0:wo.cell? ⟨w.heap.size,0,U⟩=M (I J 0):=ay hC
   have y1:wo.cell? ⟨w.heap.size,1,U⟩=M (V U 0 0):=ay hC
   have f0:wo.frozen? ⟨w.heap.size,0,U⟩=false:=hC.frozen _;have f1:wo.frozen? ⟨w.heap.size,1,U⟩=false:=hC.frozen _;have hD1:=hC.aJ 0 (I J u);have hD2:=hD1.aJ 1 (V A' m cp);have z0:=hD1.cell 0;have z1:=hD2.cell 1;simp only[eY] at z0 z1;have HE:=aj (G5 (ts:=ts) (us:=us) HB0.o Tt.o HG.o (ok:=true) (by
    have JL:=HG.o.Cx;rw[List.take_length] at JL;rw[HMO.o,<-pO HG.o.canon JL]))
   have hz:¬ (ts.length:Int)<(ts.length:Int):=ah;clear hb hC hD1 hD2 HG;go_wp2;refine bodyPost_ret (v:=.tuple #[fJ u A' m cp,.bool true]) (by simp[results,results248,go_sem,z0,z1]) rfl ?_;exact HE.o
end
section
open Go.RowKit Plain
end
end Go.Proofs.YtgfkglhelfkpoaaGreat
