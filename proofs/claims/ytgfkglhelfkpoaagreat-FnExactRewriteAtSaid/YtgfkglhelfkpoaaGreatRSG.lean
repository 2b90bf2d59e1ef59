/- Parts of the proof. -/
import Derived.Test.YtgfkglhelfkpoaaGreatRSD
set_option maxRecDepth 100000
set_option maxHeartbeats 4000000
open Go.Proofs.Tryz
open Go.Value renaming int→I,slice→V
open Go.IntKind renaming i64→J
open Option renaming some→M,none→U
open Go.Ending renaming returned→If
open Go.Obj renaming cells→Is
open Go renaming World→Iv,Calls→I0,Value→I1,maxLen→I2,Addr→I3
open Go.RowKit renaming Below→Ix
open Nat renaming le_refl→Jn,le_trans→Mp,zero_add→Mu,lt_of_lt_of_le→M1
open Go.RowKit.Below renaming refl→Jx,heap_setCell→J1
open List renaming mem_cons_self→M3,getD→Up,mem_cons_of_mem→V2
namespace Go.Proofs.YtgfkglhelfkpoaaGreat
section
open Go.RowKit Plain
variable{w w':Iv}
theorem afC{p q r:I3}{a b c:I1}(h:w.cell? p=M a/\w.cell? q=M b/\w.cell? r=M c)(hb:Ix w.heap.size w w'):w'.cell? p=M a/\w'.cell? q=M b/\w'.cell? r=M c:=
 ⟨aB h.1 hb,aB h.2.1 hb,aB h.2.2 hb⟩
theorem Af(w:Iv)(u:I1)(c:Int)(t:TypeId)(j:Nat)(x:I1)(h:[u,I J c][j]? = M x):(w.alloc (Is #[u,I J c] t)).cell? ((Addr.mk w.heap.size 0 U).add j)=M x:=by
 have hc:=(au.new w t [u,I J c]).cell j;rw[addr_add,Mu];exact hc.trans h
variable{A:Option I3}{n:Nat}
theorem Zy{k:Nat}(c:Int):∀ u∈[V A n k,I J c],u.oneCell'=true:=λu hu=>by
 simp at hu;rcases hu with rfl | rfl<;>rfl
def Cj(vars:Int)(A:Option I3)(n:Nat)(ts:List av)(w:Iv)(e:Ending)(w':Iv):Prop:=
 ∃ (A':Option I3) (bB:Nat) (yV:List av),e=If (fJ vars A' yV.length bB)/\RT w' w.heap.size w'.heap.size A' yV/\Canon yV/\(∀ e,eH yV e=eH ts e)/\yV.length<=ts.length/\jG n yV/\aC (L9 ts.length A) w w'
structure LA (W0:Iv) (p B:Nat) (vars:Int) (us out:List av) (i m cp:Nat) (A:Option I3) (wr:Iv):Prop where
 box:au wr p 86 [I J vars,V A m cp]
 len:out.length=m
 row:gT wr B (V A m cp) out
 inv:GInv us i out
 only:aC (λq=>q=p) W0 wr
 pB:p<B
 B0:B=W0.heap.size
variable{W0 wr w1:Iv}{p B i m cp:Nat}{vars:Int}{us out:List av}
theorem LA.next(h:LA W0 p B vars us out i m cp A wr)(hb:Ix wr.heap.size wr w1):LA W0 p B vars us out i m cp A w1:=
 ⟨h.box.next hb,h.len,h.row.below hb,h.inv,h.only.trans (aC.of_below hb),h.pB,h.B0⟩
theorem LA.size(h:LA W0 p B vars us out i m cp A wr):B<=wr.heap.size:=by rw[h.B0];exact h.only.size
theorem LA.push{w2:Iv}{c:Int}{j:Nat}{v2 u:I1}{E:List Int}{L:List (I1×Int)}(h:LA W0 p B vars us out i m cp A wr)(hp:iF wr B (V A m cp) out L)
  (hb:Ix wr.heap.size wr w1) (hu:bg w1 wr.heap.size u E) (hown:w2.ownsRow B 173 2 v2 (m+1) (bW L++[u,I J c])) (hg:w1.grownBy w2 (V A m cp).ownBlock) (hinv:GInv us j (out++[(E,c)])) :
  ∃ A2 c2,v2=V A2 (m+1) c2/\Ix B wr w2/\LA W0 p B vars us (out++[(E,c)]) j (m+1) c2 A2 (w2.setCell ⟨p,1,U⟩ (V A2 (m+1) c2)):=by
 have hl:=h.len;subst hl;obtain⟨h1,h2⟩:=iF.push (t:=(E,c)) hp h.size hb hu hown hg;obtain⟨A2,c2,hv⟩:=h1.form;have hv':v2=V A2 (out.length+1) c2:=by rw[hv];simp
 subst hv';refine⟨A2,c2,rfl,h2, ?_,by simp, ?_,hinv, ?_,h.pB,h.B0⟩
 ·have:=(h.box.below h2 h.pB).aJ 1 (V A2 (out.length+1) c2)
  simpa using this
 ·refine h1.keep λq hq _=>J1 _ _ _ _ (λe=>?_)
  have:=h.pB;simp only at e;omega
 ·have hB:=h.B0
  have h3:aC (λq=>q=p) W0 w2:=h.only.chain (T:=λq=>B<=q) ⟨h2.os,h2.tape,h2.output,h2.size,λk _ hk=>h2.block k ah⟩ (λq hq hb=>absurd hb ah);exact h3.chain (T:=λq=>q=p) ⟨rfl,rfl,rfl,by simp[World.setCell],λq _ hq=>J1 _ _ _ _ hq⟩ (λq _ h=>h)
def aj0(us:List av):Prop:=us.Pairwise (λs t=>¬ cmpL t.1 s.1<0)
theorem Gb.below{g off:Nat}{ts:List av}(h:Gb w g off n ts)(hg:g<w.heap.size)(hb:Ix w.heap.size w w'):Gb w' g off n ts:=λi t ht=>by
 obtain⟨Ai,ca,c0,c1,f0,f1,k1,k2,k3⟩:=h i t ht;have hbk:=hb.block g hg;exact⟨Ai,ca,(World.cell?_of_block (a:=⟨g,_,U⟩) hbk).trans c0,(World.cell?_of_block (a:=⟨g,_,U⟩) hbk).trans c1,(World.frozen?_of_block (a:=⟨g,_,U⟩) hbk).trans f0,(World.frozen?_of_block (a:=⟨g,_,U⟩) hbk).trans f1,k1.below hb,k2,k3⟩
def IZ(w:Iv)(B:Nat)(A:Option I3)(n:Nat)(ts:List av):Prop:=0<ts.length->∃ g,A=M ⟨g,0,U⟩/\g<B/\Gb w g 0 n ts
def ag8(A:Option I3)(n B:Nat)(ts:List av)(w:Iv)(e:Ending)(w':Iv):Prop:=
 e=If (.tuple #[])/\∃ us,us.Perm ts/\aj0 us/\IZ w' B A n us/\aC (L9 ts.length A) w w'
theorem SX(A:Option I3)(cap n:Nat)(ts:List av)(w wx:Iv)(hl:ts.length<=1000000)(hn:n<=1000000)(h:IZ w w.heap.size A n ts)(hb:Ix w.heap.size w wx) :
  I0 Tryz.prog 177 #[V A ts.length cap,.func (.func 178) #[] #[]] wx (ag8 A n w.heap.size ts wx):=by
 by_cases h0:0<ts.length
 ·obtain⟨g,rfl,hg,hR⟩:=h h0
  refine (DI cap g 0 n ts wx (M1 hg hb.size) (hR.below hg hb) ah ah h0).mono ?_;rintro e w' ⟨rfl,us,hp,hs,hR3,ho⟩;exact⟨rfl,us,hp,hs,λ_=>⟨g,rfl,hg,hR3⟩,⟨ho.os,ho.tape,ho.output,ho.size,λk hk hs=>ho.block k hk (λe=>hs ⟨h0,0,by rw[e]⟩)⟩⟩
 ·obtain rfl:ts=[]:=List.length_eq_zero_iff.1 ah
  refine (SY A cap wx).mono ?_;rintro e w' ⟨rfl,rfl⟩;exact⟨rfl,[],List.Perm.refl _,List.Pairwise.nil,λh=>by simp at h,aC.refl _ _⟩
theorem qQ(vars:Int)(A:Option I3)(cap n:Nat)(ts:List av)(w:Iv)(hl:ts.length<=1000000)(hn:n<=1000000)(h:IZ w w.heap.size A n ts) :
  I0 Tryz.prog 111 #[I J vars,V A ts.length cap] w (Cj vars A n ts w):=by
 obtain⟨i0,hi,hz0,hz1,hz2⟩:=info_parts Tryz.infoT;have HS:=aj (SX A cap n ts w (w.alloc (Is #[I J 0,V U 0 0] 86)) hl hn h aV);clear h;go_enter func111,ntmps111;go_wp2_with fail;refine HS.o.mono ?_;rintro e w1 ⟨rfl,us,hp,hs,hR,ho⟩;have HL2:ak (us.length=ts.length):=hp.length_eq;have HPM:=aj hp;have Ed:=aj hs;have HR:=aj hR;have HO:=aj ho;have hb0:w.heap.size<w1.heap.size:=by have:=ho.size;simp at this;omega
 clear hp hs hR ho HS;go_wp2_with fail;obtain⟨W0,aZ⟩:=aD (w1.alloc (Is #[I J vars,V U 0 0] 86))
 have CS:W0.heap.size=w1.heap.size+1:=by rw[aZ];simp
 have HB1:ak (Ix w1.heap.size w1 W0):=by show Ix _ _ _;rw[aZ];go_grown
 have HST:ak (LA W0 w1.heap.size (w1.heap.size+1) vars us [] 0 0 0 U W0):=by
  refine⟨?_,rfl,gT.EA _ _,GInv.start us,aC.refl _ _,ah,CS.symm⟩;rw[aZ];exact au.new w1 86 [I J vars,V U 0 0]
 rw[<-aZ];have Tt:=aj CS;clear aZ CS
 go_loopg [6] (ts.length+1) (λkx s6 wr=>∃ (i:Nat) (out:List av) (m cp:Nat) (A':Option I3),s6=I J (i:Int)/\i<=ts.length/\ts.length - i<kx/\m<=i/\ak (LA W0 w1.heap.size (w1.heap.size+1) vars us out i m cp A' wr))
 case atStart=>exact⟨0,[],0,0,U,by first | rfl | go_num,ah,ah,ah,HST⟩
 case round=>
  clear HST;obtain⟨i,out,m,cp,A',rfl,hin,hkx,hmi,HG⟩:=hrel;obtain⟨wo,rfl⟩:=aD wr
  have jF:ak (Ix w1.heap.size w1 wo):=HB1.o.trans (HG.o.only.below (by have:=Tt.o;omega) (λk hk=>ah));have hpw:w1.heap.size<wo.heap.size:=HG.o.box.lt
  by_cases hlt:i<ts.length
  ·obtain⟨g,rfl,hg,ahy⟩:=HR.o (by have:=HL2.o;omega)
   have hg1:g<w1.heap.size:=ah;have HRT:=aj (ahy.below hg1 jF.o);clear ahy;have sW:i<us.length:=by have:=HL2.o;omega
   obtain⟨AE,cE,c0,c1,f0,f1,k1,k2,k3⟩:=HRT.o i _ (l7 sW);obtain⟨E,hE⟩:=aD ((aR us i).1)
   simp only at k1 k2 k3;rw[<-hE] at c0 k1 k2 k3;rw[Mu] at c0;have HIE:=aj k1;have HLE:=aj k3;have HE:=aj hE;have hiz:(i:Int)<(ts.length:Int):=ah;have hgo:g<wo.heap.size:=ah;clear c1 f0 f1 k1 k2 k3 hE sW;have hg0:Ix wo.heap.size wo (wo.alloc (Is #[V AE E.length cE,I J 0] 173)):=aV;have Qx:=aj hg0;have DY:=aj (au.new wo 173 [V AE E.length cE,I J 0])
   clear hg0;go_upto_block 2 with fail
   go_cut [6] from 12 to 60 (λs6 wc=>∃ (j:Nat) (c:Int),s6=I J (j:Int)/\i<j/\j<=ts.length/\ak (c=eH (IB us i j) E)/\ak (∀ k,i<=k->k<j->(aR us k).1=E)/\ak (j<ts.length->(aR us j).1≠E)/\ak (Ix wo.heap.size wo wc)/\ak (au wc wo.heap.size 173 [V AE E.length cE,I J c]))
   case first=>
    go_wp2_with fail;generalize wo.alloc (Is #[V AE E.length cE,I J 0] 173)=W1 at *
    go_loopg [6] (ts.length+1) (λky s6 wr=>∃ (j:Nat) (c:Int),s6=I J (j:Int)/\i<=j/\j<=ts.length/\ts.length - j<ky/\ak (c=eH (IB us i j) E)/\ak (∀ k,i<=k->k<j->(aR us k).1=E)/\ak (Ix wo.heap.size wo wr)/\ak (au wr wo.heap.size 173 [V AE E.length cE,I J c]))
    case atStart=>exact⟨i,0,rfl,ah,ah,ah,by show _=_;rw[ZX];rfl,(λk h1 h2=>ah),Qx,DY⟩
    case round=>
     clear Qx DY;obtain⟨j,c,rfl,hij,hjn,hky,HC,HK,HB,HQ⟩:=hrel;have hq0:wr.cell? ⟨wo.heap.size,0,U⟩=M (V AE E.length cE):=ay HQ.o
     have hq1:wr.cell? ⟨wo.heap.size,1,U⟩=M (I J c):=ay HQ.o
     have hqf:wr.frozen? ⟨wo.heap.size,1,U⟩=false:=HQ.o.frozen _
     by_cases hj:j<ts.length
     ·have hjz:(j:Int)<(ts.length:Int):=ah
      have sW:j<us.length:=by have:=HL2.o;omega
      obtain⟨Aj,cj,d0,d1,_,_,l1,_,l3⟩:=(HRT.o.below hgo HB.o) j _ (l7 sW);simp only at l1 l3;have hlE:(aR us j).1.length=E.length:=by rw[l3,HLE.o]
      rw[hlE,Mu] at d0;rw[Mu] at d1;have O_:ak (∀ m,I0 Tryz.prog 180 #[V Aj E.length cj,V AE E.length cE] (wr.drewN m) λe w'=>e=If (.bool (decide ((aR us j).1=E)))/\∃ q,w'=(wr.drewN m).drewN q):=λm=>
       Ng Aj AE cj cE E.length _ E (wr.drewN m) (l1.below (below_drewN' (Jx _ _) m)) ((HIE.o.below HB.o).below (below_drewN' (Jx _ _) m)) hlE rfl (by rw[HLE.o];omega)
      obtain⟨x,hx⟩:=aD ((aR us j).2)
      rw[<-hx] at d1;have HX:=aj hx;have HLJ:=aj hlE;clear l1 l3 hlE hx
      by_cases heq:(aR us j).1=E
      ·have y7:ak (pl c x=eH (IB us i (j+1)) E):=by show _=_;rw[HC.o,HX.o];exact Gh hij sW heq
       have oM:ak (∀ k,i<=k->k<j+1->(aR us k).1=E):=λk h1 h2=>by
        by_cases e:k=j
        ·rw[e];exact heq
        ·exact HK.o k h1 ah
       have hde:decide ((aR us j).1=E)=true:=decide_eq_true heq;rw[hde] at O_;clear heq hde sW HK HC;go_wp2_with fail;go_quiet (first | (go_at_call 180;exact Calls.quiet_of (O_.o _)));have e1:(wr.drewN nq).cell? ⟨g,j*2+1,U⟩=M (I J x):=d1;have e2:(wr.drewN nq).cell? ⟨wo.heap.size,1,U⟩=M (I J c):=hq1;have e3:(wr.drewN nq).frozen? ⟨wo.heap.size,1,U⟩=false:=hqf;have HB2:ak (Ix wo.heap.size wo (wr.drewN nq)):=HB.o.trans (below_drewN' (Jx _ _) nq)
       have DZ:ak (au (wr.drewN nq) wo.heap.size 173 [V AE E.length cE,I J c]):=HQ.o;clear d0 d1 hq0 hq1 hqf O_ HB HQ;generalize wr.drewN nq=W2 at *;go_wp2_with fail;have kI:=aj (λwx=>ZB c x wx);obtain⟨z,hz⟩:=aD (pl c x)
       rw[<-hz] at kI y7;clear hz;have HB3:ak (Ix wo.heap.size wo (W2.setCell ⟨wo.heap.size,1,U⟩ (I J z)).drew):=(HB2.o.setCell (p:=⟨wo.heap.size,1,U⟩) (Jn _) (I J z)).drew;have LV:ak (au (W2.setCell ⟨wo.heap.size,1,U⟩ (I J z)).drew wo.heap.size 173 [V AE E.length cE,I J z]):=by
        have h:=DZ.o.aJ 1 (I J z);show au _ _ _ _;exact h
       clear HB2 DZ
       go_region_law (first | (go_simp;go_at_call 181;refine (kI.o _).mono ?_;rintro e w' ⟨rfl,rfl⟩))
       all_goals
        go_wp2
        go_roundg (ts.length - (j+1)+1)
        case measure=>omega
        case rel=>exact⟨j+1,z,by first | rfl | go_num,ah,ah,ah,y7,oM,HB3,LV⟩
      ·have hde:decide ((aR us j).1=E)=false:=decide_eq_false heq
       rw[hde] at O_;have afr:i<j:=by
        by_cases e:i=j
        ·subst e;exact absurd HE.o.symm heq
        ·omega
       have xL:ak (j<ts.length->(aR us j).1≠E):=λ_=>heq
       clear heq hde sW;go_wp2_with fail;go_quiet (first | (go_at_call 180;exact Calls.quiet_of (O_.o _)));have HB2:ak (Ix wo.heap.size wo (wr.drewN nq)):=HB.o.trans (below_drewN' (Jx _ _) nq);have DZ:ak (au (wr.drewN nq) wo.heap.size 173 [V AE E.length cE,I J c]):=HQ.o;clear d0 d1 hq0 hq1 hqf O_ HB HQ;go_wp2_with fail;go_meet
       case rel=>exact⟨j,c,rfl,afr,ah,HC,HK,xL,HB2,DZ⟩
     ·have hjz:¬ (j:Int)<(ts.length:Int):=ah
      have hjb:decide ((j:Int)<(ts.length:Int))=false:=by simp;omega
      have xL:ak (j<ts.length->(aR us j).1≠E):=λh=>absurd h hj
      have afr:i<j:=ah;go_wp2_with fail;go_quiet (fail);have HB2:ak (Ix wo.heap.size wo (wr.drewN nq)):=HB.o.trans (below_drewN' (Jx _ _) nq);have DZ:ak (au (wr.drewN nq) wo.heap.size 173 [V AE E.length cE,I J c]):=HQ.o;clear hq0 hq1 hqf HB HQ;go_wp2_with fail;go_meet
      case rel=>exact⟨j,c,rfl,afr,ah,HC,HK,xL,HB2,DZ⟩
   case rest=>
   obtain⟨j,c,rfl,hij,hjn,HC,HK,xL,HB,HQ⟩:=hcut;have Qy:=aj (GInv.step HG.o.inv Ed.o hij (by rw[HL2.o];exact hjn) (λk h1 h2=>by rw[HK.o k h1 h2,HE.o]) (λh=>by rw[<-HE.o];exact xL.o (by rw[<-HL2.o];exact h)));rw[<-HE.o,<-HC.o] at Qy;have pz:=aj (HG.o.next HB.o);have hq0:wc.cell? ⟨wo.heap.size,0,U⟩=M (V AE E.length cE):=ay HQ.o
   have hq1:wc.cell? ⟨wo.heap.size,1,U⟩=M (I J c):=ay HQ.o
   by_cases hc:c=0
   ·have hcb:(c != 0)=false:=by simp[hc]
    have afj:(c==0)=true:=by simp[hc]
    have Ec:ak (LA W0 w1.heap.size (w1.heap.size+1) vars us out j m cp A' wc):=by
     have h:=Qy.o;rw[hc] at h;simp only[n_,if_pos,List.append_nil] at h;exact⟨pz.o.box,pz.o.len,pz.o.row,h,pz.o.only,pz.o.pB,pz.o.B0⟩
    clear hc Qy pz;go_wp2
    go_roundg (ts.length - j+1)
    case measure=>omega
    case rel=>exact⟨j,out,m,cp,A',rfl,hjn,ah,ah,Ec⟩
   ·have hcb:(c != 0)=true:=by simp[hc]
    have afj:(c==0)=false:=by simp[hc]
    have agp:ak (GInv us j (out++[(E,c)])):=by
     have h:=Qy.o;simp only[n_,if_neg hc] at h;exact h
    have hp1:wc.cell? ⟨w1.heap.size,1,U⟩=M (V A' m cp):=ay pz.o.box
    have hpf:wc.frozen? ⟨w1.heap.size,1,U⟩=false:=pz.o.box.frozen _;have hpl:w1.heap.size<wc.heap.size:=pz.o.box.lt;have hql:wo.heap.size<wc.heap.size:=HQ.o.lt;obtain⟨L,Ir⟩:=pz.o.row;have hlen:=pz.o.len;have L6:=aj Ir;have yY:ak (I0 Tryz.prog 182 #[V AE E.length cE] wc.drew λe w'=>∃ A c,e=If (V A E.length c)/\bg w' wc.heap.size (V A E.length c) E/\Ix wc.heap.size wc w'):=
     (M5 AE cE E wc.drew ((HIE.o.below HB.o).below (Jx _ _).drew) (by rw[HLE.o];exact hn)).mono λe w' ⟨A,c,h1,h2,h3⟩=>⟨A,c,h1,h2,⟨h3.os,h3.tape,h3.output,h3.size,h3.block⟩⟩
    have HPU:ak (∀ (u v2:I1) (w2 w3:Iv),bg w2 wc.heap.size u E->Ix wc.heap.size wc w2->w3.ownsRow (w1.heap.size+1) 173 2 v2 (m+1) (bW L++[u,I J c])->w2.grownBy w3 (V A' m cp).ownBlock ->
      ∃ A2 c2,v2=V A2 (m+1) c2/\Ix (w1.heap.size+1) wc w3/\LA W0 w1.heap.size (w1.heap.size+1) vars us (out++[(E,c)]) j (m+1) c2 A2 (w3.setCell ⟨w1.heap.size,1,U⟩ (V A2 (m+1) c2))):=by
     intro u v2 w2 w3 hu hb hown hg;exact pz.o.push L6.o hb hu hown hg agp.o
    have LK:ak (∀ (w2 w3:Iv),Ix wc.heap.size wc w2->w2.grownBy w3 (V A' m cp).ownBlock->w3.heap[wo.heap.size]? = wc.heap[wo.heap.size]?):=by
     intro w2 w3 hb hg;obtain⟨L',akp⟩:=HG.o.row;have hlt:=World.ownsRow.lt akp.own;have hs2:=hb.size;exact (hg.block wo.heap.size ah (λe=>by have:=(hlt _ e.symm).2;omega)).trans (hb.block _ hql)
    have gI:ak (wc.cell? ⟨w1.heap.size,1,U⟩=M (V A' m cp)/\wc.cell? ⟨wo.heap.size,0,U⟩=M (V AE E.length cE)/\wc.cell? ⟨wo.heap.size,1,U⟩=M (I J c)):=⟨hp1,hq0,hq1⟩
    have nJ:ak (∀ w2,Ix wc.heap.size wc w2->w2.ownsRow (w1.heap.size+1) 173 2 (V A' m cp) m (bW L)):=λw2 hb=>by
     have h:=iW L6.o.own (w':=w2) λg' hg'=>hb.block g' (World.ownsRow.lt L6.o.own g' hg').2
     rwa [hlen] at h
    have Pf:ak (m+1<=I2/\(m+1)*32<=140737488355328):=⟨by unfold I2;omega,ah⟩
    have qM:ak (w1.heap.size+1<=wc.heap.size):=by show _<=_;omega
    clear Ir pz hlen Qy agp L6 HC HK xL HQ HB HG;go_wp2_with fail;have HFR:ak (∀ w2,Ix wc.heap.size wc w2->w2.frozen? ⟨w1.heap.size,1,U⟩=false):=λw2 hb=>(hb.frozen (p:=⟨w1.heap.size,1,U⟩) hpl).trans hpf
    go_region_law (first
      | (refine mR rfl (.tmp 51) (.tmp 58) 84 rfl (w1.heap.size+1) 173 i0 (Qp U 0 0 0) 2 32 underlying84 hi hz0 hz1 hz2 rfl bM (V A' m cp) m (bW L) (by simp[Act.eval]) ((nJ.o w2 hb1).alloc _) ⟨w2.heap.size,0,U⟩ 1 1 [V Au E.length cu,I J c] (by simp[Act.eval]) rfl (Af _ _ _ _) (Zy _) Pf.o.1 Pf.o.2 (by have:=hb1.size;have:=qM.o;simp at *;omega) ?_;intro v2 w3 hown hg3;obtain⟨A2,c2,rfl,hb3,hG3⟩:=HPU.o _ _ _ _ (hu.alloc _) (hb1.alloc hb1.size _) hown hg3;have z1:=(hb3.cell (p:=⟨w1.heap.size,1,U⟩) (Nat.lt_succ_self _)).trans gI.o.1;have z2:=(hb3.frozen (p:=⟨w1.heap.size,1,U⟩) (Nat.lt_succ_self _)).trans hpf)
      | (go_simp;go_at_call 182;refine yY.o.mono ?_;rintro e w2 ⟨Au,cu,rfl,hu,hb1⟩;obtain⟨y1,y2,y3⟩:=afC gI.o hb1;have y4:=aB y1 ((Jx _ _).alloc (Jn _) (Is #[V Au E.length cu,I J c] 173))))
    all_goals
     have Ec:=aj hG3;clear hG3 hb3 hown hg3 hu hb1;go_wp2
     go_roundg (ts.length - j+1)
     case measure=>omega
     case rel=>exact⟨j,out++[(E,c)],m+1,c2,A2,rfl,hjn,ah,ah,Ec⟩
  ·obtain rfl:i=ts.length:=ah
   have hb:=HG.o.box;have x0:wo.cell? ⟨w1.heap.size,0,U⟩=M (I J vars):=ay hb
   have x1:wo.cell? ⟨w1.heap.size,1,U⟩=M (V A' m cp):=ay hb
   have CP:au w1 w.heap.size 86 [I J 0,V U 0 0]:=by
    have h:=au.new w 86 [I J 0,V U 0 0];refine (HO.o.block w.heap.size (by simp) (λh=>?_)).trans h;obtain⟨h0,o,e⟩:=h;obtain⟨g,e2,hg,_⟩:=HR.o (by rw[HL2.o];exact h0);rw[e] at e2;have:w.heap.size=g:=by simpa using congrArg (λx=>x.map Addr.block) e2
    omega
   have hC:au wo w.heap.size 86 [I J 0,V U 0 0]:=CP.below jF.o hb0;have y0:wo.cell? ⟨w.heap.size,0,U⟩=M (I J 0):=ay hC
   have y1:wo.cell? ⟨w.heap.size,1,U⟩=M (V U 0 0):=ay hC
   have f0:wo.frozen? ⟨w.heap.size,0,U⟩=false:=hC.frozen _;have f1:wo.frozen? ⟨w.heap.size,1,U⟩=false:=hC.frozen _;have hD1:=hC.aJ 0 (I J vars);have hD2:=hD1.aJ 1 (V A' m cp);have z0:=hD1.cell 0;have z1:=hD2.cell 1;have z2:=hD2.cell 0;simp only[eY] at z0 z1 z2;have HE:ak (Cj vars A n ts w (If (fJ vars A' m cp)) ((wo.setCell ⟨w.heap.size,0,U⟩ (I J vars)).setCell ⟨w.heap.size,1,U⟩ (V A' m cp))):=by
    have hlen:=HG.o.len;have hinv:=HG.o.inv;have sW:us.take ts.length=us:=List.take_of_length_le (by rw[HL2.o];exact Jn _);have Eo:∀ e,eH out e=eH ts e:=λe=>by rw[hinv.Cx,sW];exact X4 HPM.o e
    have hO2:aC (λq=>q=w.heap.size) wo ((wo.setCell ⟨w.heap.size,0,U⟩ (I J vars)).setCell ⟨w.heap.size,1,U⟩ (V A' m cp)):=
     ⟨rfl,rfl,rfl,by simp[World.setCell],λq _ hq=>(J1 _ _ _ _ hq).trans (J1 _ _ _ _ hq)⟩
    have hrow:gT ((wo.setCell ⟨w.heap.size,0,U⟩ (I J vars)).setCell ⟨w.heap.size,1,U⟩ (V A' m cp)) (w1.heap.size+1) (V A' out.length cp) out:=by
     have h:=HG.o.row;rw[<-hlen] at h;exact h.only hO2 (λq hq e=>by have e':q=w.heap.size:=e;omega)
    have hws:w.heap.size<=((wo.setCell ⟨w.heap.size,0,U⟩ (I J vars)).setCell ⟨w.heap.size,1,U⟩ (V A' m cp)).heap.size:=by simp[World.setCell];omega
    refine⟨A',cp,out,by rw[hlen],(hrow.lower ah).rt hws,hinv.canon,Eo,by rw[hlen];exact hmi,λt ht=>?_, ?_⟩
    ·obtain⟨u,hu,e⟩:=hinv.canon.KM (L:=us) (λe=>by rw[hinv.Cx,sW]) ht
     obtain⟨k,hk,rfl⟩:=List.getElem_of_mem hu;obtain⟨g,_,_,vZ⟩:=HR.o ah;obtain⟨_,_,_,_,_,_,_,_,k3⟩:=vZ k _ (List.getElem?_eq_getElem hk);rw[<-e];exact k3
    ·have h1:aC (L9 ts.length A) w w1:=(aC.of_below (S:=L9 ts.length A) (show Ix w.heap.size w (w.alloc (Is #[I J 0,V U 0 0] 86)) by go_grown)).chain HO.o (λq _ h=>h)
     have h2:aC (L9 ts.length A) w wo:=h1.chain (T:=λq=>w1.heap.size<=q) ⟨jF.o.os,jF.o.tape,jF.o.output,jF.o.size,λk _ hk=>jF.o.block k ah⟩ (λq hq h=>absurd h ah);exact h2.chain hO2 (λq hq e=>by have e':q=w.heap.size:=e;omega)
   have hz:¬ (ts.length:Int)<(ts.length:Int):=ah;clear hb CP hC hD1 hD2 HG;go_wp2;refine bodyPost_ret (v:=fJ vars A' m cp) (by simp[results,results111,go_sem,z0,z1]) rfl ?_;exact HE.o
end
end Go.Proofs.YtgfkglhelfkpoaaGreat
namespace Go.Proofs.YtgfkglhelfkpoaaGreat
section
open Go.RowKit Plain
def nR(u:Int)(R:List av)(w:Iv)(e:Ending)(w':Iv):Prop:=
 ∃ A' cp,e=If (fJ u A' R.length cp)/\RT w' w.heap.size w'.heap.size A' R/\Ix w.heap.size w w'
variable{w:Iv}{B cap:Nat}{l:List Int}
theorem bg.setAt{g:Nat}(h:bg w B (V (M ⟨g,0,U⟩) l.length cap) l)(v:Nat)(x:Int):bg (w.setCell ⟨g,v,U⟩ (I J x)) B (V (M ⟨g,0,U⟩) (l.set v x).length cap) (l.set v x):=by
 have:=(World.ownsRow.stored h v (I J x)).1;unfold bg;rw[List.length_set,List.map_set];exact this
variable{A:Option I3}
theorem bg.at_{v n:Nat}(h:bg w B (V A l.length cap) l)(hn:n=l.length)(hv:v<n):∃ g,A=M ⟨g,0,U⟩/\B<=g/\g<w.heap.size/\w.cell? ⟨g,v,U⟩=M (I J (cf l v))/\w.frozen? ⟨g,v,U⟩=false:=by
 obtain⟨g,c,hv',h1,h2⟩:=World.ownsRow.form h ah;have hA:A=M ⟨g,0,U⟩:=by injection hv'
 subst hA;refine⟨g,rfl,h1,h2, ?_,World.ownsRow.frozenAt h v⟩;have:=World.ownsRow.cellAt h v ah;rw[this,List.getElem?_map,List.getElem?_eq_getElem ah];simp[cf,Up,show v<l.length by omega]
variable{lo:Nat}{R:List av}
theorem RT.Di{rY hi:Nat}(h:RT w lo hi A R)(hl:rY<=lo)(hhi:hi<=w.heap.size):RT w rY w.heap.size A R:=by
 refine⟨by have:=h.le;omega,Jn _,λhn=>?_,λ_ _ h hb=>h.keep hb⟩;obtain⟨b,o,g,e,h1,h2,hc,hd⟩:=h.now hn;refine⟨b,o,g,e,ah,ah,λi t ht=>?_,hd⟩;obtain⟨Ai,cap,c1,c2,c3,c4⟩:=hc i t ht;refine⟨Ai,cap,c1,c2,c3,λh0=>?_⟩;obtain⟨oi,e1,e2,e3,e4,e5⟩:=c4 h0;exact⟨oi,e1,ah,ah,e4,e5⟩
theorem RT.empty(w:Iv)(lo:Nat)(h:lo<=w.heap.size)(A:Option I3):RT w lo w.heap.size A []:=⟨h,Jn _,Mq.nil _ _ _ _,λ_ _ h hb=>h.keep hb⟩
theorem aiF{w1:Iv}{v0 c:Int}{cp:Nat}(hb:Ix w.heap.size w w1)(h:RT w1 lo w1.heap.size A R)(hlo:w.heap.size+1<lo)(x y:I1) :
  Pt (v0,R) c w (If (.tuple #[fJ v0 A R.length cp,I J c])) ((w1.setCell ⟨w.heap.size+1,0,U⟩ x).setCell ⟨w.heap.size+1,1,U⟩ y):=by
 have hO2:aC (λq=>q=w.heap.size+1) w1 ((w1.setCell ⟨w.heap.size+1,0,U⟩ x).setCell ⟨w.heap.size+1,1,U⟩ y):=
  ⟨rfl,rfl,rfl,by simp[World.setCell],λq _ hq=>(J1 _ _ _ _ hq).trans (J1 _ _ _ _ hq)⟩
 have h2:=h.only hO2 (λq hq _ e=>by have e':q=w.heap.size+1:=e;omega);have hs:((w1.setCell ⟨w.heap.size+1,0,U⟩ x).setCell ⟨w.heap.size+1,1,U⟩ y).heap.size=w1.heap.size:=by simp[World.setCell]
 exact⟨(hb.setCell (p:=⟨w.heap.size+1,0,U⟩) (by simp) _).setCell (p:=⟨w.heap.size+1,1,U⟩) (by simp) _,A,cp,rfl,RT.Di h2 ah (by rw[hs];exact Jn _)⟩
end
end Go.Proofs.YtgfkglhelfkpoaaGreat
namespace Go.Proofs.YtgfkglhelfkpoaaGreat
section
open Go.RowKit Plain
variable{B n:Nat}{A:Option I3}
theorem gT.aln{w:Iv}{cap:Nat}{ts:List av}(h:gT w B (V A ts.length cap) ts)(hn:jG n ts):IZ w w.heap.size A n ts:=λh0=>by
 obtain⟨us,h⟩:=h;obtain⟨g,c,hv,hg1,hg2⟩:=World.ownsRow.form h.own h0;have hA:A=M ⟨g,0,U⟩:=by injection hv
 have hc:cap=c:=by injection hv
 subst hA;subst hc;have hgt:=og h.own (g:=g) rfl;refine⟨g,rfl,hg2,λi t ht=>?_⟩;have hi:i<ts.length:=(List.getElem?_eq_some_iff.1 ht).1;obtain⟨x,hx⟩:∃ x,us[i]? = M x:=⟨us[i]'(by rw[h.len];exact hi),List.getElem?_eq_getElem (by rw[h.len];exact hi)⟩
 obtain⟨h1,h2⟩:=h.row i _ t hx ht;obtain⟨Ai,ca,hu⟩:=h2.form;have hcg:=nS (l:=us) (i:=i) (u:=x.1) (c:=x.2) hx;have c0:=(World.ownsRow.cellAt h.own (i*2) ah).trans hcg.1;have c1:=(World.ownsRow.cellAt h.own (i*2+1) ah).trans hcg.2;rw[hu] at c0 h2;rw[h1] at c1;refine⟨Ai,ca,by rw[Mu];exact c0,by rw[Mu];exact c1,World.ownsRow.frozenAt h.own _,World.ownsRow.frozenAt h.own _,h2.JW.ints,λq hq=>?_,hn t (List.mem_of_getElem? ht)⟩
 obtain⟨hq0,oq,e⟩:=hq;have e':Ai=M ⟨q,oq,U⟩:=e;exact (kE h2 (g:=q) (by rw[e'];rfl)).ne hgt bM
structure LSt (w0:Iv) (B n:Nat) (L:List av) (m cp:Nat) (A:Option I3) (wr:Iv):Prop where
 len:L.length=m
 row:gT wr B (V A m cp) L
 J3:jG n L
 below:Ix w0.heap.size w0 wr
 B0:w0.heap.size<=B
 B1:B<=wr.heap.size
variable{w0 wr w1:Iv}{m cp:Nat}{L:List av}
theorem LSt.next(h:LSt w0 B n L m cp A wr)(hb:Ix wr.heap.size wr w1):LSt w0 B n L m cp A w1:=
 ⟨h.len,h.row.below hb,h.J3,aH h.below hb,h.B0,Mp h.B1 hb.size⟩
theorem LSt.push{w2:Iv}{v2 u:I1}{E:List Int}{c:Int}{us:List (I1×Int)}(h:LSt w0 B n L m cp A wr)(hp:iF wr B (V A m cp) L us)(hE:E.length=n)
  (hb:Ix wr.heap.size wr w1) (hu:bg w1 wr.heap.size u E) (hown:w2.ownsRow B 173 2 v2 (m+1) (bW us++[u,I J c])) (hg:w1.grownBy w2 (V A m cp).ownBlock) :
  ∃ A2 c2,v2=V A2 (m+1) c2/\LSt w0 B n (L++[(E,c)]) (m+1) c2 A2 w2:=by
 have hl:=h.len;subst hl;obtain⟨h1,h2⟩:=iF.push (t:=(E,c)) hp h.B1 hb hu hown hg;obtain⟨A2,c2,hv⟩:=h1.form;have hv':v2=V A2 (L.length+1) c2:=by rw[hv];simp
 subst hv';refine⟨A2,c2,rfl,by simp,h1,λt ht=>?_,h.below.trans (h2.mono h.B0),h.B0,Mp h.B1 h2.size⟩
 rcases List.mem_append.1 ht with ht | ht
 ·exact h.J3 t ht
 ·simp at ht;rw[ht];exact hE
end
section
open Plain
theorem Kh(L:List av):(∀ t∈kD L,∃ u∈L,u.1=t.1)/\(kD L).length<=L.length:=by
 by_cases hx:∃ R,Canon R/\∀ e,eH R e=eH L e
 ·obtain⟨R,h1,h2⟩:=hx
  have hn:=pO h1 h2;rw[<-hn];refine⟨λt ht=>h1.KM h2 ht, ?_⟩;have hsub:∀ (R:List av),R.Pairwise (λs t=>cmpL s.1 t.1<0)->∀ (K:List (List Int)),(∀ t∈R,t.1∈K)->R.length<=K.length:=by
   intro R
   induction R with
   | nil=>intro _ K _;simp
   | cons t R ih=>
    intro hp K hK;have hp':=List.pairwise_cons.1 hp;have hm:=hK t (M3 ..);have h3:=ih hp'.2 (K.erase t.1) (λs hs=>by
     have hne:s.1≠t.1:=(jR (hp'.1 s hs)).symm;exact (List.mem_erase_of_ne hne).2 (hK s (V2 _ hs)))
    rw[List.length_erase_of_mem hm] at h3;have:0<K.length:=List.length_pos_of_mem hm;simp only[List.length_cons];omega
  have:=hsub R h1.Ef (L.map (·.1)) (λt ht=>by
   obtain⟨u,hu,e⟩:=h1.KM h2 ht;exact List.mem_map.2 ⟨u,hu,e⟩)
  simpa using this
 ·have:kD L=[]:=by unfold kD;rw[dif_neg hx]
  rw[this];simp
theorem uW{n:Nat}{ts:List av}(h:jG n ts):rE ts<=ts.length*n:=by
 induction ts with
 | nil=>simp[rE,Lj]
 | cons t r ih=>
  have h1:=h t (M3 ..);have h2:=ih λs hs=>h s (V2 _ hs)
  rw[S_,List.length_cons,Nat.add_mul,Nat.one_mul,h1];omega
end
end Go.Proofs.YtgfkglhelfkpoaaGreat
