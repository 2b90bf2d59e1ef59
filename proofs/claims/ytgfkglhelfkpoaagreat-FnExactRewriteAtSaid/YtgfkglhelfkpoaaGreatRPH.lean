/- Parts of the proof. -/
import Derived.Test.YtgfkglhelfkpoaaGreatRPG
set_option maxRecDepth 100000
set_option maxHeartbeats 2000000
open Go.Proofs.Tryz
open Go.Value renaming int→I,slice→V
open Go.IntKind renaming i64→J
open Option renaming some→M,none→U
open Go.Ending renaming returned→If
open Go.Obj renaming cells→Is
open Go renaming World→Iv,Calls→I0,maxLen→I2
open Go.RowKit renaming Below→Ix
open Nat renaming le_refl→Jn,zero_add→Mu
open And renaming intro→J0
open List renaming length_map→My
namespace Go.Proofs.YtgfkglhelfkpoaaGreat
section
open Go.RowKit Plain
theorem JV(u:Int)(S:Nat->Prop)(w:Iv)(hS:∀ q,S q->q<w.heap.size)(h0:0<=u)(h1:u<=12) :
  I0 Tryz.prog 108 #[I J u] w λe w'=>∃ A cp,e=If (V A u.toNat cp)/\u.toNat<=cp/\cp<=I2/\fK w' S u A (kX u u.toNat)/\Ix w.heap.size w w':=by
 obtain⟨i0,hi,hz0,hz1,hz2⟩:=info_parts Tryz.infoPo;obtain⟨un,rfl⟩:∃ m:Nat,u=m:=⟨u.toNat,ah⟩
 have Zc:un<=12:=ah;have HSS:=aj hS;clear hS;go_enter func108,ntmps108;go_wp2
 go_loopw [3,4] (λo_ i wr=>∃ (j g:Nat),i=I J (j:Int)/\j<=un/\ak (o_.ownBlock=M g/\w.heap.size<=g/\g<wr.heap.size)/\ak (jc wr w.heap.size S un o_ (kX un j))/\ak (Ix w.heap.size w wr)) (λ_ i _=>un - (intOf i).toNat)
 case atStart=>exact⟨0,w.heap.size,bE,Nat.zero_le _,⟨rfl,Jn _,by simp⟩,jc.start w _ _,by show Ix _ _ _;go_grown⟩
 case round=>
  obtain⟨j,g,rfl,hj,hG,HR,jF⟩:=hrel
  by_cases hlt:j<un
  ·have hjl:(j:Int)<(un:Int):=ah
   have aik:0<un:=ah;have LD:ak (I0 Tryz.prog 59 #[I J 0,I J un] wr λe Wa=>∃ be oe ce,e=If (V (M ⟨be,oe,U⟩) un ce)/\wr.heap.size<=be/\be<Wa.heap.size/\(∀ j x,(cO un)[j]? = M x->Wa.cell? ⟨be,oe+j,U⟩=M (I J x)/\Wa.frozen? ⟨be,oe+j,U⟩=false)/\Ix wr.heap.size wr Wa):=by
    refine (M8 0 un wr aik ah).mono ?_;rintro e Wa ⟨Ae,ce,rfl,hIT,hba⟩;have e1:(ops un).num 0=cO un:=by
     rw[<-J_];unfold ops;refine mk_congr λk _=>?_
     split<;>rfl
    rw[e1] at hIT ⊢;have hl:(cO un).length=un:=by unfold cO;simp
    obtain⟨be,oe,rfl,q1,q2,_,q3⟩:=hIT (by rw[hl];exact aik);rw[hl];exact⟨be,oe,ce,rfl,q1,q2,q3,hba⟩
   go_wp2_with fail;refine LD.o.mono ?_;rintro e Wa ⟨be,oe,ce,rfl,ahH,afd,hze,hba⟩;have aio:(cO un)[j]? = M 0:=by unfold cO;simp[hlt]
   have e0:Wa.cell? ⟨be,oe+j,U⟩=M (I J 0):=(hze j 0 aio).1;have ef:Wa.frozen? ⟨be,oe+j,U⟩=false:=(hze j 0 aio).2;have afe:=aam hlt hze;have hg2:Ix wr.heap.size wr (Wa.setCell ⟨be,oe+j,U⟩ (I J 1)):=hba.setCell (p:=⟨be,oe+j,U⟩) ahH _;have hsz2:(Wa.setCell ⟨be,oe+j,U⟩ (I J 1)).heap.size=Wa.heap.size:=by simp[World.setCell]
   clear hze hba LD;go_upto_region 7 with fail;change Code.wp _ _ _ _ (Wa.setCell ⟨be,oe+j,U⟩ (I J 1));generalize Wa.setCell ⟨be,oe+j,U⟩ (I J 1)=Wb at *;have Zb:be<Wb.heap.size:=ah;clear e0 ef hsz2;obtain⟨W3,jw⟩:=aD (Wb.alloc (Is #[V (M ⟨be,oe,U⟩) un ce,I J 1] 173))
   have hg3:Ix Wb.heap.size Wb W3:=by rw[jw];go_grown
   have akC:be<W3.heap.size:=by have:=hg3.size;omega
   have hC3:∀ i x,(qD un j)[i]? = M x->W3.cell? ⟨be,oe+i,U⟩=M (I J x)/\W3.frozen? ⟨be,oe+i,U⟩=false:=λi x hx=>⟨aB (afe i x hx).1 hg3,by rw[World.frozen?_of_block (a:=⟨be,oe+i,U⟩) (hg3.block be Zb)];exact (afe i x hx).2⟩
   have hT3:au W3 Wb.heap.size 173 [V (M ⟨be,oe,U⟩) un ce,I J 1]:=by
    have:=au.new Wb 173 [V (M ⟨be,oe,U⟩) un ce,I J 1];rw[jw];exact this
   have vZ:RT W3 wr.heap.size W3.heap.size (M ⟨Wb.heap.size,0,U⟩) (oL un j):=by
    show RT _ _ _ _ [(qD (un:Int).toNat j,1)];exact Fw (cap:=ce) akC hC3 (by rw[kH];exact hT3) ahH hg2.size ah
   have dh:aQ un (oL un j)=true:=Qs h0 h1;have hb3:Ix wr.heap.size wr W3:=hg2.trans (hg3.mono hg2.size);have vY:iK W3 (aS S g) (M ⟨Wb.heap.size,0,U⟩) (oL un j):=iK.of vZ (fG dh) (λq e=>by
    rcases e with e | e
    ·have:=HSS.o q e;have:=jF.o.size;omega
    ·have:=hG.o.2.2;omega)
   have oN:=aj (J0 vY dh);have HB3:=aj hb3;obtain⟨ps,yj,hps,nC,AO⟩:=HR.o;have hpl:ps.length=j:=by have:=congrArg List.length hps;rw[My,dH] at this;exact this
   have mq:=aj yj;have BI:=aj AO;have mZ:=aj nC;have r_:=aj hps;obtain⟨mM,hW1'⟩:=aD (W3.alloc (Is (jA un (oL un j,M ⟨Wb.heap.size,0,U⟩,1)).toArray 86))
   have hb2:Ix W3.heap.size W3 mM:=by rw[hW1'];go_grown
   have hC2:au mM W3.heap.size 86 (jA un (oL un j,M ⟨Wb.heap.size,0,U⟩,1)):=by rw[hW1'];exact au.new _ _ _
   have nJ:=aj ((mq.o.below hb3).below hb2).own;have HB2:=aj hb2;have fH:=aj hC2;have HW3:=aj jw;have sD:=aj hW1';have hs3:W3.heap.size=Wb.heap.size+1:=by rw[jw];simp
   have HZZ:=aj (J0 hg2.size hs3);clear hb2 hC2 hW1' yj hps nC AO HR vY vZ hb3 hg3 hC3 hT3 hg2 afe jw hs3 dh;go_wp2_with (at_builtin;change wpList _ _ _ _ _ ((Wb.alloc (Is #[V (M ⟨be,oe,U⟩) un ce,I J 1] 173)).alloc (Is (jA un (oL un j,M ⟨Wb.heap.size,0,U⟩,1)).toArray 86));rw[<-HW3.o,<-sD.o];refine wpList_append_own_at _ rfl _ _ 162 rfl w.heap.size 86 i0 (.agg #[I J 0,V U 0 0]) 2 32 underlying162 hi hz0 hz1 hz2 rfl bM _ _ _ rfl nJ.o ⟨W3.heap.size,0,U⟩ 1 1 (jA un (oL un j,M ⟨Wb.heap.size,0,U⟩,1)) ?c0 rfl ?c1 ?c2 ?c3 ?c4 ?c5 ?_)
   case c0=>rw[HZZ.o.2];simp[Act.eval]
   case c1=>intro q z hz;rw[addr_add,Mu];exact (fH.o.cell q).trans hz
   case c2=>intro z hz;simp only[jA,List.mem_cons,List.not_mem_nil,or_false] at hz;rcases hz with rfl | rfl<;>rfl
   case c3=>simp only[My];unfold I2;omega
   case c4=>simp only[My];omega
   case c5=>have:=HB2.o.size;have:=HB3.o.size;have:=jF.o.size;omega
   intro v2 w2 iA hg2 _ hat;have hown:w2.ownsRow w.heap.size 86 2 v2 ((ps.map (mH S (un:Int))).length+1) ((ps.map (mH S (un:Int))).flatMap (·.1)++jA un (oL un j,M ⟨Wb.heap.size,0,U⟩,1)):=by
    rw[My,hpl];exact iA
   have vY:=oN.o;have hgl:=mq.o.lt hG.o.1;obtain⟨hp2,hbl⟩:=jc.push (p:=(oL un j,M ⟨Wb.heap.size,0,U⟩,1)) mq.o (by rw[r_.o];exact mZ.o) BI.o hG.o.1 HB3.o vY.1 vY.2 HB2.o hown hg2 hat;rw[r_.o,<-FM] at hp2;have hg3:∃ g3,v2.ownBlock=M g3/\w.heap.size<=g3/\g3<w2.heap.size:=by
    have hs2:=hg2.size;have hs1:=HB2.o.size;have hs3:=HB3.o.size;have hs4:=jF.o.size
    rcases hat with e | e
    ·exact⟨g,e.trans hG.o.1,hgl.1,ah⟩
    ·exact⟨mM.heap.size,e,ah,(World.ownsRow.lt hown _ e).2⟩
   obtain⟨g3,hg3⟩:=hg3;have Ec:=aj hg3;have mU:=aj hp2;have Vg:=aj (jF.o.trans hbl);clear hown iA hg2 hat hp2 hbl hg3 mq BI mZ r_ nJ fH HB2 oN hgl sD HW3 HZZ vY HB3;go_wp2
   go_roundw
   case rel=>exact⟨j+1,g3,bE,ah,Ec,mU,Vg⟩
   case measure=>simp[intOf];omega
  ·obtain rfl:j=un:=ah
   obtain⟨A,cp,rfl,q1,q2,q3⟩:=HR.o.env (λq e=>HSS.o q e);rw[dH] at q1 ⊢;have HP:ak (∃ A2 cp2,Ending.returned (V A j cp)=If (V A2 (j:Int).toNat cp2)/\(j:Int).toNat<=cp2/\cp2<=I2/\fK wr S j A2 (kX j (j:Int).toNat)/\Ix w.heap.size w wr):=⟨A,cp,rfl,q1,q2,q3,jF.o⟩
   clear q1 q2 q3;go_wp2;go_ret;exact HP.o
end
section
open Plain
end
end Go.Proofs.YtgfkglhelfkpoaaGreat
