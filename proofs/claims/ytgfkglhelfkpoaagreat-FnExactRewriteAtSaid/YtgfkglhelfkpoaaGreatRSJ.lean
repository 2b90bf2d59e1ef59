/- Parts of the proof. -/
import Derived.Test.YtgfkglhelfkpoaaGreatRSH
set_option maxRecDepth 100000
set_option maxHeartbeats 8000000
open Go.Proofs.Tryz
open Go.Value renaming int→I,slice→V
open Go.IntKind renaming i64→J
open Option renaming some→M,none→U
open Go.Ending renaming returned→If
open Go.Obj renaming cells→Is
open Go renaming World→Iv,Calls→I0,Value→I1,maxLen→I2,Addr→I3
open Go.RowKit renaming Below→Ix
open Nat renaming le_refl→Jn,zero_add→Mu,lt_of_lt_of_le→M1
open Go.RowKit.Below renaming refl→Jx
open Bool renaming and_eq_true→Mb
open List renaming length_map→My,getD→Up
namespace Go.Proofs.YtgfkglhelfkpoaaGreat
section
open Plain
def kZ(ts:List av):Nat->Int
 | 0=>-1
 | i+1=>max (kZ ts i) (dg (aR ts i))
theorem yG(ts:List av):∀ (n i:Nat),i<n->dg (aR ts i)<=kZ ts n:=by
 intro n
 induction n with
 | zero=>intro i h;omega
 | succ n ih=>
  intro i h;unfold kZ
  by_cases e:i=n
  ·subst e;omega
  ·have:=ih i ah;omega
theorem GY(ts:List av):∀ (n:Nat),0<n->(∀ i,i<n->0<=dg (aR ts i))->∃ i,i<n/\kZ ts n=dg (aR ts i):=by
 intro n
 induction n with
 | zero=>intro h;omega
 | succ n ih=>
  intro _ h0;unfold kZ
  by_cases hn:n=0
  ·subst hn
   exact⟨0,ah,by have:=h0 0 ah;unfold kZ;omega⟩
  ·obtain⟨i,hi,e⟩:=ih ah (λi hi=>h0 i ah)
   by_cases hle:dg (aR ts n)<=kZ ts n
   ·exact⟨i,ah,ah⟩
   ·exact⟨n,ah,ah⟩
variable{u:Int}{ts:List av}
theorem PN(h:aQ u ts=true){i:Nat}(hi:i<ts.length):0<=dg (aR ts i)/\dg (aR ts i)<=12:=by
 obtain⟨_,_,_,p4,p5⟩:=bV (bZ h (eZ hi));exact⟨(xU p4 _).1,p5⟩
theorem Qf(h:aQ u ts=true):∀ i,i<=ts.length->-1<=kZ ts i/\kZ ts i<=12:=by
 intro i
 induction i with
 | zero=>intro _;unfold kZ;omega
 | succ i ih=>
  intro hi;have h1:=ih ah;have h2:=PN h (i:=i) ah;unfold kZ;omega
def I6(ts us:List av):Prop:=ts≠[]/\us≠[]/\12<kZ ts ts.length+kZ us us.length
variable{us:List av}
theorem Py(h1:aQ u ts=true)(h2:aQ u us=true):I6 ts us ↔ ∃ s∈ts,∃ t∈us,12<dg s+dg t:=by
 constructor
 ·rintro⟨n1,n2,hd⟩
  have l1:0<ts.length:=List.length_pos_iff.2 n1;have l2:0<us.length:=List.length_pos_iff.2 n2;obtain⟨i,hi,e1⟩:=GY ts ts.length l1 (λi hi=>(PN h1 hi).1);obtain⟨j,hj,e2⟩:=GY us us.length l2 (λi hi=>(PN h2 hi).1);exact⟨_,eZ hi,_,eZ hj,ah⟩
 ·rintro⟨s,hs,t,ht,hd⟩
  obtain⟨i,hi,e1⟩:=List.getElem_of_mem hs;obtain⟨j,hj,e2⟩:=List.getElem_of_mem ht;have f1:aR ts i=s:=by simp[aR,Up,hi,e1]
  have f2:aR us j=t:=by simp[aR,Up,hj,e2]
  have g1:=yG ts ts.length i hi;have g2:=yG us us.length j hj;rw[f1] at g1;rw[f2] at g2;exact⟨List.ne_nil_of_mem hs,List.ne_nil_of_mem ht,ah⟩
theorem aix(h1:aQ u ts=true)(h2:aQ u us=true)(hb:¬ I6 ts us):aQ u (kD (bX ts us))=decide ((kD (bX ts us)).length<=120):=by
 refine Gs ?_ (lN _) (yI _) λx hx=>?_
 ·unfold aQ at h1
  simp only[Mb] at h1;exact h1.1.1
 ·obtain⟨s,hs,t,ht,rfl⟩:=Fu hx
  refine⟨fQ s t,abI (bZ h1 hs) (bZ h2 ht) ?_,rfl⟩;have:¬ 12<dg s+dg t:=λh=>hb ((Py h1 h2).2 ⟨s,hs,t,ht,h⟩)
  omega
theorem afF(h1:aQ u ts=true)(h2:aQ u us=true)(hb:I6 ts us):aQ u (kD (bX ts us))=false:=by
 obtain⟨s,hs,t,ht,hd⟩:=(Py h1 h2).1 hb;exact YB h1 h2 (lN _) (yI _) hs ht hd
theorem He(ts us:List av):(bX ts us).length=ts.length*us.length:=by
 unfold bX
 induction ts with
 | nil=>simp
 | cons t ts ih=>rw[List.flatMap_cons,List.length_append,ih,My,List.length_cons,Nat.succ_mul];omega
variable{n:Nat}
theorem aeq{B:Nat}{L:List av}(hl:jG n L)(hn:n<=12)(hB:L.length<=B)(hB2:B<=20000):(kD L).length<=B/\rE (kD L)<=1048576:=by
 obtain⟨s1,s2⟩:=Kh L;have hl:jG n (kD L):=λt ht=>by
  obtain⟨s,hs,e⟩:=s1 t ht;rw[<-e];exact hl s hs
 have h4:=uW hl;have h5:(kD L).length*n<=20000*12:=Nat.mul_le_mul ah ah;exact⟨ah,ah⟩
theorem Ot(h1:jG n ts)(h2:jG n us):jG n (bX ts us):=λx hx=>by
 obtain⟨s,hs,t,ht,rfl⟩:=Fu hx;have a:=h1 s hs;have b:=h2 t ht;show (gM s.1 t.1).length=n;rw[gU ah,a]
theorem aee(h1:aQ u ts=true)(h2:aQ u us=true):(kD (bX ts us)).length<=14400/\rE (kD (bX ts us))<=1048576:=by
 have z1:=bC h1;have z2:=bC h2;refine aeq (Ot (bS h1) (bS h2)) ah ?_ ah;rw[He];exact Nat.mul_le_mul z1.2.2 z2.2.2
end
section
open Go.RowKit Plain
theorem sO(b o:Nat)(u:Int)(A:Option I3)(cap:Nat)(ts:List av)(w:Iv)(h1:w.cell? ⟨b,o+1,U⟩=M (V A ts.length cap))(hT:eX w A ts)(dh:aQ u ts=true) :
  I0 Tryz.prog 270 #[ptr b o] w λe w'=>e=If (I J (kZ ts ts.length))/\w=w':=by
 have HT:=aj hT;have Il:=aj dh;have hl:=(bC dh).2.2;clear hT dh;go_enter func270,ntmps270;go_wp2_with fail
 go_loopg [3,4] (ts.length+1) (λkx s3 s4 wr=>∃ (i:Nat) (m:Int),s3=I J m/\s4=I J (i:Int)/\i<=ts.length/\ts.length - i<kx/\ak (m=kZ ts i)/\w=wr)
 case atStart=>exact⟨0,-1,rfl,by first | rfl | go_num,ah,ah,rfl,rfl⟩
 case round=>
  obtain⟨i,m,rfl,rfl,hin,hkx,HM,rfl⟩:=hrel
  by_cases hlt:i<ts.length
  ·have hiz:(i:Int)<(ts.length:Int):=ah
   obtain⟨bt,ot,Ai,ci,rfl,Iu,t0,t1,tI,_⟩:=HT.o.at_ hlt;have hok1:=bV (bZ Il.o (eZ hlt));have HEX:=aj hok1.2.2.2.1;have abm:(aR ts i).1.length<=12:=by have:=bC Il.o;have:=bS Il.o _ (eZ hlt);omega
   obtain⟨E,hE⟩:=aD ((aR ts i).1)
   rw[<-hE] at t0 tI HEX abm;have HDG:ak (dg (aR ts i)=fB E E.length):=by show _=_;unfold dg;rw[hE]
   have HTI:=aj tI;clear hok1 hE tI t1;go_wp2_with fail
   go_loopg [5,6] (E.length+1) (λky s5 s6 wr=>∃ (k:Nat),s5=I J (fB E k)/\s6=I J (k:Int)/\k<=E.length/\E.length - k<ky/\w=wr)
   case atStart=>exact⟨0,rfl,by first | rfl | go_num,ah,ah,rfl⟩
   case round=>
    obtain⟨k,rfl,rfl,hkn,hky,rfl⟩:=hrel;have hb:=xU HEX.o k;have hb0:=hb.1;have hb1:fB E k<=144:=ah
    by_cases GI:k<E.length
    ·have hkz:(k:Int)<(E.length:Int):=ah
     obtain⟨be,oe,rfl,_,hce⟩:=HTI.o.zC ah;have e0:=hce k GI;have hx:=iU HEX.o k;have hx0:=hx.1;have hx1:=hx.2;have HD:ak (fB E (k+1)=fB E k+cf E k):=rfl;clear hce hb hx;generalize cf E k=x at *;generalize fB E k=d at *;go_wp2
     go_roundg (E.length - (k+1)+1)
     case measure=>omega
     case rel=>exact⟨k+1,by rw[HD.o],by first | rfl | go_num,ah,ah,rfl⟩
    ·obtain rfl:k=E.length:=ah
     have hkz:¬ (E.length:Int)<(E.length:Int):=ah;have Pf:=aj (λwx=>J8 m (fB E E.length) wx);have Ik:ak (max m (fB E E.length)=kZ ts (i+1)):=by show _=_;unfold kZ;rw[HM.o,HDG.o]
     clear hb;generalize fB E E.length=d at *;obtain⟨z,hz⟩:=aD (max m d)
     rw[<-hz] at Pf Ik;clear hz;go_wp2_with (go_at_call 212;refine (Pf.o _).mono ?_;rintro e w' ⟨rfl,rfl⟩)
     go_roundg (ts.length - (i+1)+1)
     case measure=>omega
     case rel=>exact⟨i+1,z,rfl,by first | rfl | go_num,ah,ah,Ik,rfl⟩
  ·obtain rfl:i=ts.length:=ah
   have hiz:¬ (ts.length:Int)<(ts.length:Int):=ah;go_wp2;go_ret;exact⟨by rw[HM.o];rfl,rfl⟩
theorem zU(ts us:List av):(bX ts us).length=ts.length*us.length:=by
 unfold bX
 induction ts with
 | nil=>simp
 | cons t ts ih=>rw[List.flatMap_cons,List.length_append,ih,My,List.length_cons,Nat.succ_mul];omega
variable{us:List av}
theorem xC{ts:List av}{i:Nat}(h:i<ts.length):bX (ts.take i) us++us.map (fQ (aR ts i))=bX (ts.take (i+1)) us:=by
 unfold bX;rw[List.take_add_one,l7 h,List.flatMap_append];simp
theorem tq{j:Nat}(h:j<us.length)(s:av):(us.take j).map (fQ s)++[fQ s (aR us j)]=(us.take (j+1)).map (fQ s):=by
 rw[List.take_add_one,l7 h,List.map_append];rfl
variable{n:Nat}
theorem Qg{a b:List Int}(ha:a.length=n)(hb:b.length=n):mk n (λk=>cf a k+cf b k)=gM a b:=by
 refine List.ext_getElem (by rw[iV,gU ah,ha]) λk h1 h2=>?_
 rw[iV] at h1;simp only[mk,List.getElem_map,List.getElem_range];have h3:=Gd (a:=a) (b:=b) ah k;rw[ji h2];exact h3.symm
theorem ZO{s t:av}{c d:Int}(hs:s.1.length=n)(ht:t.1.length=n)(hc:c=s.2)(hd:d=t.2):(mk n (λk=>cf s.1 k+cf t.1 k),tm c d)=fQ s t:=by
 rw[Qg hs ht,hc,hd];rfl
theorem P8{w:Iv}{l:List Int}{b o:Nat}(h:Ints w (M ⟨b,o,U⟩) l)(hl:0<l.length):b<w.heap.size:=by
 obtain⟨b',o',e,hb,_⟩:=h.zC hl;injection e with e;injection e with e;subst e;exact hb
theorem afD{w1 w2:Iv}{B b1 b2 b3 b4 o1 o2 o3 o4:Nat}{x1 x2 x3 x4:I1}{w0:Iv}(h:w1.cell? ⟨b1,o1,U⟩=M x1/\w1.cell? ⟨b2,o2,U⟩=M x2/\w1.cell? ⟨b3,o3,U⟩=M x3/\w1.cell? ⟨b4,o4,U⟩=M x4)(hl:b1<B/\b2<B/\b3<B/\b4<B)(ha:Ix B w0 w1)(hb:Ix B w0 w2) :
  w2.cell? ⟨b1,o1,U⟩=M x1/\w2.cell? ⟨b2,o2,U⟩=M x2/\w2.cell? ⟨b3,o3,U⟩=M x3/\w2.cell? ⟨b4,o4,U⟩=M x4:=
 ⟨(hb.cell (p:=⟨b1,o1,U⟩) hl.1).trans ((ha.cell (p:=⟨b1,o1,U⟩) hl.1).symm.trans h.1),(hb.cell (p:=⟨b2,o2,U⟩) hl.2.1).trans ((ha.cell (p:=⟨b2,o2,U⟩) hl.2.1).symm.trans h.2.1),(hb.cell (p:=⟨b3,o3,U⟩) hl.2.2.1).trans ((ha.cell (p:=⟨b3,o3,U⟩) hl.2.2.1).symm.trans h.2.2.1),(hb.cell (p:=⟨b4,o4,U⟩) hl.2.2.2).trans ((ha.cell (p:=⟨b4,o4,U⟩) hl.2.2.2).symm.trans h.2.2.2)⟩
theorem wB(u:Int)(A1 A2:Option I3)(c1 c2:Nat)(ts us:List av)(w:Iv)(hT:eX w A1 ts)(hU:eX w A2 us)(dh:aQ u ts=true)(hok2:aQ u us=true) :
  I0 Tryz.prog 134 #[fJ u A1 ts.length c1,fJ u A2 us.length c2] w (nR u (kD (bX ts us)) w):=by
 obtain⟨i0,hi,hz0,hz1,hz2⟩:=info_parts Tryz.infoT;obtain⟨j0,hj,hy0,hy1,f_⟩:=info_parts Tryz.infoI;have hl1:=(bC dh).2.2;have hl2:=(bC hok2).2.2;obtain⟨n,hn⟩:=aD u.toNat
 have abm:n<=12:=by have:=bC dh;omega
 have Ti:ak (jG n ts):=by rw[hn];exact bS dh
 have iD:ak (jG n us):=by rw[hn];exact bS hok2
 have aaz:=aj dh;have aaA:=aj hok2;have oJ:ak (∀ i j,i<=ts.length->j<=us.length->(bX (ts.take i) us++(us.take j).map (fQ (aR ts i))).length<=20000):=λi j h1 h2=>by
  rw[List.length_append,zU,My,List.length_take,List.length_take];have:(min i ts.length)*us.length<=120*120:=Nat.mul_le_mul ah hl2;omega
 obtain⟨W0,aZ⟩:=aD (((w.alloc (Is #[I J u,V A1 ts.length c1] 86)).alloc (Is #[I J u,V A2 us.length c2] 86)).alloc (Is #[I J 0,V U 0 0] 86))
 obtain⟨hB0,hQ1,hQ2,hQ3⟩:=ae1 aZ;have HB0:=aj hB0;have IU:=aj hQ1;have y7:=aj hQ2;have DZ:=aj hQ3;have HT:ak (eX W0 A1 ts):=hT.below hB0;have HU:ak (eX W0 A2 us):=hU.below hB0;have gQ:ak (W0.heap.size=w.heap.size+3):=by show _=_;rw[aZ];simp
 have dI:=aj aZ;have HST:ak (LSt W0 W0.heap.size n (bX (ts.take 0) us) 0 0 (M ⟨w.heap.size+1+1+1,0,U⟩) (W0.alloc (Is #[] 173))):=by
  rw[show w.heap.size+1+1+1=W0.heap.size from gQ.o.symm];exact⟨by simp[bX],by have:=gT.start W0;simpa [bX] using this,λt ht=>by simp[bX] at ht,aV,Jn _,by simp⟩
 clear hn dh hok2 hT hU aZ hB0 hQ1 hQ2 hQ3;go_enter func134,ntmps134;go_wp2_with fail;rw[<-dI.o];generalize W0.alloc (Is #[] 173)=W1 at *
 go_loopg [5,16] (ts.length+1) (λkx s5 s16 wr=>∃ (i:Nat) (L:List av) (m cp:Nat) (A':Option I3),s5=V A' m cp/\s16=I J (i:Int)/\i<=ts.length/\ts.length - i<kx/\ak (L=bX (ts.take i) us)/\ak (LSt W0 W0.heap.size n L m cp A' wr))
 case atStart=>exact⟨0,_,0,0,_,rfl,by first | rfl | go_num,ah,ah,(by show _=_;rfl),HST⟩
 case round=>
  clear HST;obtain⟨i,L,m,cp,A',rfl,rfl,hin,hkx,Ij,HG⟩:=hrel;obtain⟨wo,rfl⟩:=aD wr
  by_cases hlt:i<ts.length
  ·have hiz:(i:Int)<(ts.length:Int):=ah
   obtain⟨bt,ot,Ai,ci,rfl,Iu,Lh,Li,tI,_⟩:=HT.o.at_ hlt;have t0:=aB Lh HG.o.below;have t1:=aB Li HG.o.below;clear Lh Li;have hlen:(aR ts i).1.length=n:=Ti.o _ (eZ hlt);have hok1:=bV (bZ aaz.o (eZ hlt));rw[hlen] at t0;obtain⟨c,hc⟩:=aD ((aR ts i).2)
   obtain⟨E,hE⟩:=aD ((aR ts i).1)
   rw[<-hc] at t1;have hcb:1<=c/\c<=1000002:=by rw[hc];exact⟨hok1.2.1,hok1.2.2.1⟩
   have HCB:=aj hcb;have HEB:ak (∀ k,0<=cf E k/\cf E k<=12):=λk=>by rw[hE];exact iU hok1.2.2.2.1 k
   have HIE:ak (Ints W0 Ai E):=by rw[hE];exact tI
   have lH:ak (E.length=n):=by rw[hE];exact hlen
   have HC:=aj hc;have HE:=aj hE;clear hok1 hlen tI hc hE hcb;have hbn:Ix wo.heap.size wo (wo.alloc (Is #[V Ai n ci,I J c] 173)):=aV;have HQA:=aj (au.new wo 173 [V Ai n ci,I J c]);have x3:(wo.alloc (Is #[V Ai n ci,I J c] 173)).cell? ⟨w.heap.size+1,1,U⟩=M (V A2 us.length c2):=by
    rw[((y7.o.next HG.o.below).next hbn).cell];rfl
   have mq:=aj (HG.o.next hbn);have Pg:ak (∀ q,(V A' m cp).ownBlock=M q->q≠wo.heap.size):=λq hq e=>by
    obtain⟨xs,Ir⟩:=HG.o.row;have:=(World.ownsRow.lt Ir.own q hq).2;omega
   have Vr:ak (L=bX (ts.take i) us++(us.take 0).map (fQ (aR ts i))):=by show _=_;rw[Ij.o];simp
   clear hbn;go_wp2_with fail;generalize wo.alloc (Is #[V Ai n ci,I J c] 173)=W2 at *;clear x3 HG
   go_loopg [5,23] (us.length+1) (λky s5 s23 wr=>∃ (j:Nat) (L:List av) (m cp:Nat) (A':Option I3),s5=V A' m cp/\s23=I J (j:Int)/\j<=us.length/\us.length - j<ky/\ak (L=bX (ts.take i) us++(us.take j).map (fQ (aR ts i)))/\ak (LSt W0 W0.heap.size n L m cp A' wr)/\ak (∀ q,(V A' m cp).ownBlock=M q->q≠wo.heap.size)/\ak (au wr wo.heap.size 173 [V Ai n ci,I J c]))
   case atStart=>exact⟨0,L,m,cp,A',rfl,by first | rfl | go_num,ah,ah,Vr,mq,Pg,HQA⟩
   case round=>
    clear mq Pg HQA Vr Ij;obtain⟨j,L,m,cp,A',rfl,rfl,hjn,hky,Ij,HG,Pg,HQA⟩:=hrel;obtain⟨wi,rfl⟩:=aD wr
    by_cases abj:j<us.length
    ·have hjz:(j:Int)<(us.length:Int):=ah
     obtain⟨bu,ou,Aj,cj,rfl,hbu,t2',t3',tJ,_⟩:=HU.o.at_ abj;have t2:=aB t2' HG.o.below;have t3:=aB t3' HG.o.below;clear t2' t3';have hlen:(aR us j).1.length=n:=iD.o _ (eZ abj);have hok1:=bV (bZ aaA.o (eZ abj));rw[hlen] at t2;obtain⟨d,hd⟩:=aD ((aR us j).2)
     obtain⟨F,hF⟩:=aD ((aR us j).1)
     rw[<-hd] at t3;have Lb:1<=d/\d<=1000002:=by rw[hd];exact⟨hok1.2.1,hok1.2.2.1⟩
     have HDB:=aj Lb;have Tf:ak (∀ k,0<=cf F k/\cf F k<=12):=λk=>by rw[hF];exact iU hok1.2.2.2.1 k
     have Pb:ak (Ints W0 Aj F):=by rw[hF];exact tJ
     have HFL:ak (F.length=n):=by rw[hF];exact hlen
     have HPT:ak ((mk n (λk=>cf E k+cf F k),tm c d)=fQ (aR ts i) (aR us j)):=by
      show _=_;rw[HE.o,hF];exact ZO (by rw[<-HE.o];exact lH.o) hlen HC.o hd
     clear hok1 hlen tJ hd hF Lb;have hbn:Ix wi.heap.size wi (wi.alloc (Is #[V Aj n cj,I J d] 173)):=aV;obtain⟨W3,jw⟩:=aD (wi.alloc (Is #[V Aj n cj,I J d] 173))
     have HQB:ak (au W3 wi.heap.size 173 [V Aj n cj,I J d]):=by rw[jw];exact au.new wi 173 [V Aj n cj,I J d]
     rw[<-jw] at hbn;have aff:Ix W3.heap.size W3 (W3.alloc (Is #[] 2)):=aV;have aib:=(HQA.o.next hbn).next aff;have x4:(W3.alloc (Is #[] 2)).cell? ⟨wo.heap.size,0,U⟩=M (V Ai n ci):=ay aib
     have LX:ak (bg (W3.alloc (Is #[] 2)) W3.heap.size (V (M ⟨wi.heap.size+1,0,U⟩) 0 0) (mk 0 (λk=>cf E k+cf F k))):=by
      rw[show wi.heap.size+1=W3.heap.size by rw[jw];simp];exact KC W3 (λk=>cf E k+cf F k)
     have HB3:=aj hbn;have HW3:=aj jw;have HBS:ak (Ix W3.heap.size W3 (W3.alloc (Is #[] 2))):=aff;rw[jw] at x4;clear hbn aff aib jw;go_wp2_with fail;rw[<-HW3.o];clear x4;generalize W3.alloc (Is #[] 2)=W4 at *
     go_loopg [10,31] (n+1) (λkz Hy s31 wr=>∃ (k ce:Nat) (Ae:Option I3),Hy=V Ae k ce/\s31=I J (k:Int)/\k<=n/\n - k<kz/\ak (bg wr W3.heap.size (V Ae k ce) (mk k (λk=>cf E k+cf F k)))/\ak (Ix W3.heap.size W3 wr))
     case atStart=>exact⟨0,0,_,rfl,by first | rfl | go_num,ah,ah,LX,HBS⟩
     case round=>
      clear LX HBS;obtain⟨k,ce,Ae,rfl,rfl,hkn,hkz,HR,HB⟩:=hrel;have HBI:ak (Ix wi.heap.size wi wr):=HB3.o.trans (HB.o.mono HB3.o.size);have hqa:au wr wo.heap.size 173 [V Ai n ci,I J c]:=HQA.o.next HBI.o;have Y5:au wr wi.heap.size 173 [V Aj n cj,I J d]:=HQB.o.next HB.o
      by_cases GI:k<n
      ·have akY:(k:Int)<(n:Int):=ah
       obtain⟨be,oe,rfl,hbe,hce⟩:=(HIE.o.below (aH HG.o.below HBI.o)).zC (by rw[lH.o];omega);obtain⟨bf,Ld,rfl,hbf,hcf⟩:=(Pb.o.below (aH HG.o.below HBI.o)).zC (by rw[HFL.o];omega);have e0:=hce k (by rw[lH.o];exact GI);have e1:=hcf k (by rw[HFL.o];exact GI);have a0:wr.cell? ⟨wo.heap.size,0,U⟩=M (V (M ⟨be,oe,U⟩) n ci):=ay hqa
       have b0:wr.cell? ⟨wi.heap.size,0,U⟩=M (V (M ⟨bf,Ld,U⟩) n cj):=ay Y5
       have hx:=HEB.o k;have hy:=Tf.o k;obtain⟨x,GN⟩:=aD (cf E k)
       obtain⟨y,hyy⟩:=aD (cf F k)
       rw[<-GN] at e0 hx;rw[<-hyy] at e1 hy;have hws:IntKind.i64.wrap (x+y)=x+y:=by rw[IntKind.wrap_i64];omega
       have HXY:ak (x+y=(λk=>cf E k+cf F k) k):=by show _=_;rw[GN,hyy]
       have hW:Ix wr.heap.size wr (wr.drew.alloc (Is #[I J (x+y)] 2)):=((Jx _ _).drew.alloc (Jn _) _)
       have qL:ak ((wr.drew.alloc (Is #[I J (x+y)] 2)).ownsRow W3.heap.size 2 1 (V Ae k ce) k ((mk k (λk=>cf E k+cf F k)).map (I J))):=
        (HR.o.keep (w':=wr.drew.alloc (Is #[I J (x+y)] 2)) λg hg=>hW.block g (HR.o.lt hg).2).afM (iV _ _).symm
       have HB1:=aj (aH HB.o hW);have hN1:ak (∀ j u,[I J (x+y)][j]? = M u->(wr.drew.alloc (Is #[I J (x+y)] 2)).cell? ((Addr.mk wr.heap.size 0 U).add j)=M u):=by
        intro j u hj;have hc:au (wr.drew.alloc (Is #[I J (x+y)] 2)) wr.heap.size 2 [I J (x+y)]:=au.new wr.drew _ _;rw[addr_add,Mu];exact (hc.cell j).trans hj
       have fC:ak (∀ u∈[I J (x+y)],u.oneCell'=true):=by intro u hu;simp at hu;subst hu;rfl
       have LJ:ak (∀ v2 w2,w2.ownsRow W3.heap.size 2 1 v2 (k+1) ((mk k (λk=>cf E k+cf F k)).map (I J)++[I J (x+y)])->(wr.drew.alloc (Is #[I J (x+y)] 2)).grownBy w2 (V Ae k ce).ownBlock ->
        (∃ A2 c2,v2=V A2 (k+1) c2)/\bg w2 W3.heap.size v2 (mk (k+1) (λk=>cf E k+cf F k))/\Ix W3.heap.size W3 w2):=λv2 w2 hown hg=>Qn HR.o HB.o hW HXY.o hown hg
       have agJ:ak (wr.cell? ⟨wo.heap.size,0,U⟩=M (V (M ⟨be,oe,U⟩) n ci)/\wr.cell? ⟨wi.heap.size,0,U⟩=M (V (M ⟨bf,Ld,U⟩) n cj)/\wr.cell? ⟨be,oe+k,U⟩=M (I J x)/\wr.cell? ⟨bf,Ld+k,U⟩=M (I J y)):=⟨a0,b0,e0,e1⟩
       have vO:ak (wo.heap.size<W3.heap.size/\wi.heap.size<W3.heap.size/\be<W3.heap.size/\bf<W3.heap.size):=by
        have:=HQA.o.lt;have:=HQB.o.lt;have:=HB3.o.size;have:=(HIE.o.below (aH HG.o.below HBI.o))
        have:=HG.o.B1;have:=P8 HIE.o (by rw[lH.o];omega);have:=P8 Pb.o (by rw[HFL.o];omega);exact⟨ah,ah,ah,ah⟩
       clear hce hcf hqa Y5 GN hyy hW HR;go_wp2_with fail;refine aO.start (S:=(λwx=>wx.cell? ⟨wo.heap.size,0,U⟩=M (V (M ⟨be,oe,U⟩) n ci)/\wx.cell? ⟨wi.heap.size,0,U⟩=M (V (M ⟨bf,Ld,U⟩) n cj)/\wx.cell? ⟨be,oe+k,U⟩=M (I J x)/\wx.cell? ⟨bf,Ld+k,U⟩=M (I J y))) 14 aL aL ?S0 (λaA hB=>?_)
       case S0=>((try dsimp only);exact agJ.o)
       iterate 12 (refine aO.tk hB aA ?_;try simp only[aP])
       refine aO.step (i:=12) rfl bM aL (λK hK=>?_);go_simp;refine hK.out _ _ (by (try dsimp only);exact⟨oU aA.1,oU aA.2.1,oU aA.2.2.1,oU aA.2.2.2⟩) ?_;clear hK K aA;intro aA
       (try simp only[aP])
       refine aO.step (i:=13) rfl bM aL (λK hK=>?_);refine mR rfl (.tmp 34) (.tmp 46) 28 rfl W3.heap.size 2 j0 (I J 0) 1 8 underlying28 hj hy0 hy1 f_ rfl bM (V Ae k ce) k _ (by simp[Act.eval]) qL.o ⟨wr.heap.size,0,U⟩ 1 1 [I J (x+y)] (by simp[Act.eval]) rfl hN1.o fC.o (by unfold I2;omega) ah HB1.o.size ?_;intro v2 w2 hown hg;obtain⟨⟨A2,c3,rfl⟩,hr2,hb2⟩:=LJ.o _ _ hown hg
       refine hK.out _ _ (by (try dsimp only);exact afD agJ.o vO.o (HB.o) hb2) ?_;clear hK K aA;intro aA
       (try simp only[aP])
       refine aO.last rfl aL aL (λK hK=>?_);go_simp;refine hK.out _ _ ?_;clear hK K;have sj:=aj hr2;have HB2:=aj hb2;clear hr2 hb2 hown hg aA;go_wp2
       go_roundg (n - (k+1)+1)
       case measure=>omega
       case rel=>exact⟨k+1,c3,A2,rfl,by first | rfl | go_num,ah,ah,sj,HB2⟩
      ·obtain rfl:k=n:=ah
       have akY:¬ (k:Int)<(k:Int):=ah;have a1:wr.cell? ⟨wo.heap.size,1,U⟩=M (I J c):=ay hqa
       have b1:wr.cell? ⟨wi.heap.size,1,U⟩=M (I J d):=ay Y5
       have pz:=aj (HG.o.next HBI.o);have aeQ:=aj hqa;obtain⟨xs,Ir⟩:=HG.o.row;have hlenL:=pz.o.len;subst hlenL;have iA:=iW Ir.own (w':=wr) λg hg=>HBI.o.block g (World.ownsRow.lt Ir.own g hg).2
       have L6:=aj Ir;have hmb:=zS (a:=c) (b:=d) (by have:=HCB.o;omega) HCB.o.2 (by have:=HDB.o;omega) HDB.o.2;have hmx:0<=c*d:=hmb.1;have amF:c*d<=1000004000004:=hmb.2;have hwm:IntKind.i64.wrap (c*d)=c*d:=by rw[IntKind.wrap_i64];omega
       have amK:(c*d).tmod 1000003=tm c d:=by unfold tm;rw[Int.tmod_eq_emod_of_nonneg hmx]
       have HRW:ak (bg wr wi.heap.size (V Ae k ce) (mk k (λk=>cf E k+cf F k))):=World.ownsRow.mono HR.o HB3.o.size;have HLE:ak (L++[(mk k (λk=>cf E k+cf F k),tm c d)]=bX (ts.take i) us++(us.take (j+1)).map (fQ (aR ts i))):=by
        show _=_;rw[HPT.o,Ij.o,List.append_assoc,tq abj]
       have HLB:ak (L.length<=20000):=by show _<=_;rw[Ij.o];exact oJ.o i j ah ah
       have hlb:L.length<=20000:=HLB.o;have qM:ak (W0.heap.size<=wr.heap.size):=pz.o.B1;clear Ir hmb hqa Y5;go_wp2_with (at_builtin;refine wpList_append_own_at _ rfl _ _ 84 rfl W0.heap.size 173 i0 (Qp U 0 0 0) 2 32 underlying84 hi hz0 hz1 hz2 rfl bM _ L.length _ rfl (iA.alloc _) ⟨wr.heap.size,0,U⟩ 1 1 [V Ae k ce,I J (tm c d)] rfl rfl ?c1 ?c2 ?c3 ?c4 ?c5 ?_)
       try (case c1=>exact sM _ _ _ _)
       try (case c2=>first | exact⟨rfl,rfl⟩ | (intro u hu;simp at hu;rcases hu with rfl | rfl<;>rfl))
       case c3=>unfold I2;omega
       case c4=>omega
       case c5=>first | (have:=qM.o;simp;omega)
       intro v2 w5 hown hg _ sV;have hal:Ix wr.heap.size wr (wr.alloc (Is #[V Ae k ce,I J (tm c d)] 173)):=aV;obtain⟨A2,c3,rfl,hL⟩:=LSt.push (c:=tm c d) HG.o L6.o (iV _ _) (HBI.o.trans (hal.mono HBI.o.size)) (HRW.o.keep λg hg=>hal.block g (HRW.o.lt hg).2) hown hg;have HL5:=aj hL;have ajp:ak (∀ q,(V A2 (L.length+1) c3).ownBlock=M q->q≠wo.heap.size):=λq hq e=>by
        rcases sV with h | h
        ·exact Pg.o q (by rw[<-h];exact hq) e
        ·rw[hq] at h;injection h with h;have:=hal.size;have:=aeQ.o.lt;simp at *;omega
       have HQ5:ak (au w5 wo.heap.size 173 [V Ai k ci,I J c]):=(hg.block _ (M1 aeQ.o.lt hal.size) (λe=>Pg.o _ e.symm rfl)).trans (aeQ.o.next hal);clear hown hg hL iA L6 HG pz hal sV;go_wp2
       go_roundg (us.length - (j+1)+1)
       case measure=>omega
       case rel=>exact⟨j+1,_,L.length+1,c3,A2,rfl,by first | rfl | go_num,ah,ah,HLE,HL5,ajp,HQ5⟩
    ·obtain rfl:j=us.length:=ah
     have hjz:¬ (us.length:Int)<(us.length:Int):=ah;have HLE:ak (L=bX (ts.take (i+1)) us):=by show _=_;rw[Ij.o,List.take_length,xC hlt]
     go_wp2
     go_roundg (ts.length - (i+1)+1)
     case measure=>omega
     case rel=>exact⟨i+1,L,m,cp,A',rfl,by first | rfl | go_num,ah,ah,HLE,HG⟩
  ·obtain rfl:i=ts.length:=ah
   have hlenL:=HG.o.len;subst hlenL;have hlb:L.length<=20000:=by
    have h:=oJ.o ts.length 0 (Jn _) (Nat.zero_le _);rw[Ij.o];simpa using h
   have q0:wo.cell? ⟨w.heap.size,0,U⟩=M (I J u):=by rw[(IU.o.next HG.o.below).cell];rfl
   have HGA:=aj (qQ u A' cp n L wo ah ah (HG.o.row.aln HG.o.J3));have Im:=aj (DZ.o.next HG.o.below);have HBK:ak (∀ q,L9 L.length A' q->W0.heap.size<=q):=λq ⟨h0,oq,e⟩=>by
    obtain⟨us,Ir⟩:=HG.o.row;exact (World.ownsRow.lt Ir.own q (by rw[e];rfl)).1
   have HCF:ak (∀ R,Canon R->(∀ e,eH R e=eH L e)->R=kD (bX ts us)):=λR h1 h2=>pO h1 (λe=>by rw[h2,Ij.o,List.take_length])
   have jF:ak (Ix w.heap.size w wo):=HB0.o.trans (HG.o.below.mono HB0.o.size);have hwo:W0.heap.size<=wo.heap.size:=HG.o.B1;have amR:=gQ.o;have hzz:¬ (ts.length:Int)<(ts.length:Int):=ah;go_wp2_with fail;refine HGA.o.mono ?_;rintro e w2 ⟨A2',cp2,R,rfl,vZ,hcan,Eo,_,_,hO⟩;have hRE:=HCF.o R hcan Eo;have hblk:w2.heap[w.heap.size+2]? = wo.heap[w.heap.size+2]?:=hO.block _ ah (λh=>by have:=HBK.o _ h;omega)
   have hr:au w2 (w.heap.size+2) 86 [I J 0,V U 0 0]:=hblk.trans Im.o;have y0:w2.cell? ⟨w.heap.size+2,0,U⟩=M (I J 0):=ay hr
   have y1:w2.cell? ⟨w.heap.size+2,1,U⟩=M (V U 0 0):=ay hr
   have f0:w2.frozen? ⟨w.heap.size+2,0,U⟩=false:=hr.frozen _;have f1:w2.frozen? ⟨w.heap.size+2,1,U⟩=false:=hr.frozen _;have hD1:=hr.aJ 0 (I J u);have hD2:=hD1.aJ 1 (V A2' R.length cp2);have z0:=hD1.cell 0;have z1:=hD2.cell 1;simp only[eY] at z0 z1;have HB2:ak (Ix w.heap.size w w2):=jF.o.trans (hO.below ah (λk hk=>by have:=HBK.o k hk;omega))
   have HRT:=aj vZ;have HRR:ak (kD (bX ts us)=R):=hRE.symm;have hlo:w.heap.size+2<wo.heap.size:=ah;clear vZ hcan Eo hO hRE hblk hr hD1 hD2;go_wp2;refine bodyPost_ret (v:=fJ u A2' R.length cp2) (by simp[results,results134,go_sem,z0,z1]) rfl ?_;rw[HRR.o];exact nR.of HB2.o HRT.o hlo _ _
end
end Go.Proofs.YtgfkglhelfkpoaaGreat
