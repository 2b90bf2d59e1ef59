/- Texts put together: WQv8, WQv9, WPv15, WQv10, WQv11. -/
import Derived.Test.YtgfkglhelfkpoaaGreatRPG
import Derived.Test.YtgfkglhelfkpoaaGreatRPD
import Derived.Test.YtgfkglhelfkpoaaGreatRP
import Derived.Test.YtgfkglhelfkpoaaGreatRSD
import Derived.Test.YtgfkglhelfkpoaaGreatRPA
import Derived.Test.YtgfkglhelfkpoaaGreatRSG
set_option maxRecDepth 100000
set_option maxHeartbeats 2000000
open Go.Lib (hid)
namespace Go.Proofs.YtgfkglhelfkpoaaGreat
section
open Go.RowKit Plain
theorem inputsQ_any (u:Int) (S:Nat→Prop) (w:World) (hS:∀ q,S q→q<w.heap.size) (h0:0≤u) (h1:u≤12) :
  Calls Tryz.prog 108 #[.int .i64 u] w fun e w'=>∃ A cp,e=.returned (.slice A u.toNat cp)∧u.toNat≤cp∧cp≤maxLen∧PEnv w' S u A (unkL u u.toNat)∧Below w.heap.size w w':=by
 obtain ⟨i0,hi,hz0,hz1,hz2⟩:=info_parts Tryz.infoPo
 obtain ⟨un,rfl⟩:∃ m:Nat,u=m:=⟨u.toNat,by omega⟩
 have hun:un≤12:=by omega
 have HSS:=hid hS
 clear hS
 go_enter Tryz.func108,Tryz.ntmps108
 go_wp2
 go_loopw [3,4] (fun o_ i wr=>∃ (j g:Nat),i=.int .i64 (j:Int)∧j≤un∧Hid (o_.ownBlock=some g∧w.heap.size≤g∧g<wr.heap.size)∧Hid (PRow wr w.heap.size S un o_ (unkL un j))∧Hid (Below w.heap.size w wr)) (fun _ i _=>un - (intOf i).toNat)
 case atStart=>exact ⟨0,w.heap.size,by go_num,Nat.zero_le _,⟨rfl,Nat.le_refl _,by simp⟩,PRow.start w _ _,by show Below _ _ _;go_grown⟩
 case round=>
  obtain ⟨j,g,rfl,hj,hG,HR,HBW⟩:=hrel
  by_cases hlt:j<un
  ·have hjl:(j:Int)<(un:Int):=by omega
   have hun0:0<un:=by omega
   have HCO:Hid (Calls Tryz.prog 59 #[.int .i64 0,.int .i64 un] wr fun e Wa=>∃ be oe ce,e=.returned (.slice (some ⟨be,oe,none⟩) un ce)∧wr.heap.size≤be∧be<Wa.heap.size∧(∀ j x,(zeroE un)[j]? = some x→Wa.cell? ⟨be,oe+j,none⟩=some (.int .i64 x)∧Wa.frozen? ⟨be,oe+j,none⟩=false)∧Below wr.heap.size wr Wa):=by
    refine (constS_any 0 un wr hun0 (by omega)).mono ?_
    rintro e Wa ⟨Ae,ce,rfl,hIT,hba⟩
    have e1:(ops un).num 0=zeroE un:=by
     rw [←mk_zeroE]
     unfold ops
     refine mk_congr fun k _=>?_
     split<;>rfl
    rw [e1] at hIT ⊢
    have hl:(zeroE un).length=un:=by unfold zeroE;simp
    obtain ⟨be,oe,rfl,q1,q2,_,q3⟩:=hIT (by rw [hl];exact hun0)
    rw [hl]
    exact ⟨be,oe,ce,rfl,q1,q2,q3,hba⟩
   go_wp2_with fail
   refine HCO.out.mono ?_;rintro e Wa ⟨be,oe,ce,rfl,hbe1,hbe2,hze,hba⟩
   have hz0j:(zeroE un)[j]? = some 0:=by unfold zeroE;simp [hlt]
   have e0:Wa.cell? ⟨be,oe+j,none⟩=some (.int .i64 0):=(hze j 0 hz0j).1
   have ef:Wa.frozen? ⟨be,oe+j,none⟩=false:=(hze j 0 hz0j).2
   have hbe3:=unkE_set hlt hze
   have hg2:Below wr.heap.size wr (Wa.setCell ⟨be,oe+j,none⟩ (.int .i64 1)):=hba.setCell (p:=⟨be,oe+j,none⟩) hbe1 _
   have hsz2:(Wa.setCell ⟨be,oe+j,none⟩ (.int .i64 1)).heap.size=Wa.heap.size:=by simp [World.setCell]
   clear hze hba HCO
   go_upto_region 7 with fail
   change Code.wp _ _ _ _ (Wa.setCell ⟨be,oe+j,none⟩ (.int .i64 1))
   generalize Wa.setCell ⟨be,oe+j,none⟩ (.int .i64 1)=Wb at *
   have hszb:be<Wb.heap.size:=by omega
   clear e0 ef hsz2
   obtain ⟨W3,hW3⟩:∃ W3,W3=Wb.alloc (.cells #[.slice (some ⟨be,oe,none⟩) un ce,.int .i64 1] 173):=⟨_,rfl⟩
   have hg3:Below Wb.heap.size Wb W3:=by rw [hW3];go_grown
   have hbw3:be<W3.heap.size:=by have:=hg3.size;omega
   have hC3:∀ i x,(unkE un j)[i]? = some x→W3.cell? ⟨be,oe+i,none⟩=some (.int .i64 x)∧W3.frozen? ⟨be,oe+i,none⟩=false:=fun i x hx=>⟨keepC (hbe3 i x hx).1 hg3,by rw [World.frozen?_of_block (a:=⟨be,oe+i,none⟩) (hg3.block be hszb)];exact (hbe3 i x hx).2⟩
   have hT3:Cells W3 Wb.heap.size 173 [.slice (some ⟨be,oe,none⟩) un ce,.int .i64 1]:=by
    have:=Cells.new Wb 173 [.slice (some ⟨be,oe,none⟩) un ce,.int .i64 1]
    rw [hW3];exact this
   have hRT:RT W3 wr.heap.size W3.heap.size (some ⟨Wb.heap.size,0,none⟩) (unkT un j):=by
    show RT _ _ _ _ [(unkE (un:Int).toNat j,1)]
    exact oneTermAt (cap:=ce) hbw3 hC3 (by rw [unkE_length];exact hT3) hbe1 hg2.size (by omega)
   have hok:polyOk un (unkT un j)=true:=unkT_ok h0 h1
   have hb3:Below wr.heap.size wr W3:=hg2.trans (hg3.mono hg2.size)
   have hPA:PAt W3 (privS S g) (some ⟨Wb.heap.size,0,none⟩) (unkT un j):=PAt.of hRT (polyOk_totT hok) (fun q e=>by
    rcases e with e | e
    ·have:=HSS.out q e;have:=HBW.out.size;omega
    ·have:=hG.out.2.2;omega)
   have HPA:=hid (And.intro hPA hok)
   have HB3:=hid hb3
   obtain ⟨ps,hG1,hps,hoks,hkp⟩:=HR.out
   have hpl:ps.length=j:=by have:=congrArg List.length hps;rw [List.length_map,unkL_length] at this;exact this
   have HG1:=hid hG1
   have HKP:=hid hkp
   have HOKS:=hid hoks
   have HPS:=hid hps
   obtain ⟨W1',hW1'⟩:∃ W,W=W3.alloc (.cells (poD un (unkT un j,some ⟨Wb.heap.size,0,none⟩,1)).toArray 86):=⟨_,rfl⟩
   have hb2:Below W3.heap.size W3 W1':=by rw [hW1'];go_grown
   have hC2:Cells W1' W3.heap.size 86 (poD un (unkT un j,some ⟨Wb.heap.size,0,none⟩,1)):=by rw [hW1'];exact Cells.new _ _ _
   have HOW:=hid ((HG1.out.below hb3).below hb2).own
   have HB2:=hid hb2
   have HC2:=hid hC2
   have HW3:=hid hW3
   have HW1':=hid hW1'
   have hs3:W3.heap.size=Wb.heap.size+1:=by rw [hW3];simp
   have HZZ:=hid (And.intro hg2.size hs3)
   clear hb2 hC2 hW1' hG1 hps hoks hkp HR hPA hRT hb3 hg3 hC3 hT3 hg2 hbe3 hW3 hs3 hok
   go_wp2_with (at_builtin;change wpList _ _ _ _ _ ((Wb.alloc (.cells #[.slice (some ⟨be,oe,none⟩) un ce,.int .i64 1] 173)).alloc (.cells (poD un (unkT un j,some ⟨Wb.heap.size,0,none⟩,1)).toArray 86));rw [←HW3.out,←HW1'.out];refine wpList_append_own_at _ rfl _ _ 162 rfl w.heap.size 86 i0 (.agg #[.int .i64 0,.slice none 0 0]) 2 32 Tryz.underlying162 hi hz0 hz1 hz2 rfl (by decide) _ _ _ rfl HOW.out ⟨W3.heap.size,0,none⟩ 1 1 (poD un (unkT un j,some ⟨Wb.heap.size,0,none⟩,1)) ?c0 rfl ?c1 ?c2 ?c3 ?c4 ?c5 ?_)
   case c0=>rw [HZZ.out.2];simp [Act.eval]
   case c1=>intro q z hz;rw [addr_add,Nat.zero_add];exact (HC2.out.cell q).trans hz
   case c2=>intro z hz;simp only [poD,List.mem_cons,List.not_mem_nil,or_false] at hz;rcases hz with rfl | rfl<;>rfl
   case c3=>simp only [List.length_map];unfold maxLen;omega
   case c4=>simp only [List.length_map];omega
   case c5=>have:=HB2.out.size;have:=HB3.out.size;have:=HBW.out.size;omega
   intro v2 w2 hown0 hg2 _ hat
   have hown:w2.ownsRow w.heap.size 86 2 v2 ((ps.map (poEl S (un:Int))).length+1) ((ps.map (poEl S (un:Int))).flatMap (·.1)++poD un (unkT un j,some ⟨Wb.heap.size,0,none⟩,1)):=by
    rw [List.length_map,hpl]
    exact hown0
   have hPA:=HPA.out
   have hgl:=HG1.out.lt hG.out.1
   obtain ⟨hp2,hbl⟩:=PRow.push (p:=(unkT un j,some ⟨Wb.heap.size,0,none⟩,1)) HG1.out (by rw [HPS.out];exact HOKS.out) HKP.out hG.out.1 HB3.out hPA.1 hPA.2 HB2.out hown hg2 hat
   rw [HPS.out,←unkL_succ] at hp2
   have hg3:∃ g3,v2.ownBlock=some g3∧w.heap.size≤g3∧g3<w2.heap.size:=by
    have hs2:=hg2.size
    have hs1:=HB2.out.size
    have hs3:=HB3.out.size
    have hs4:=HBW.out.size
    rcases hat with e | e
    ·exact ⟨g,e.trans hG.out.1,hgl.1,by omega⟩
    ·exact ⟨W1'.heap.size,e,by omega,(World.ownsRow.lt hown _ e).2⟩
   obtain ⟨g3,hg3⟩:=hg3
   have HG3:=hid hg3
   have HP2:=hid hp2
   have HBW2:=hid (HBW.out.trans hbl)
   clear hown hown0 hg2 hat hp2 hbl hg3 HG1 HKP HOKS HPS HOW HC2 HB2 HPA hgl HW1' HW3 HZZ hPA HB3
   go_wp2
   go_roundw
   case rel=>exact ⟨j+1,g3,by go_num,by omega,HG3,HP2,HBW2⟩
   case measure=>simp [intOf];omega
  ·obtain rfl:j=un:=by omega
   obtain ⟨A,cp,rfl,q1,q2,q3⟩:=HR.out.env (fun q e=>HSS.out q e)
   rw [unkL_length] at q1 ⊢
   have HP:Hid (∃ A2 cp2,Ending.returned (.slice A j cp)=.returned (.slice A2 (j:Int).toNat cp2)∧(j:Int).toNat≤cp2∧cp2≤maxLen∧PEnv wr S j A2 (unkL j (j:Int).toNat)∧Below w.heap.size w wr):=⟨A,cp,rfl,q1,q2,q3,HBW.out⟩
   clear q1 q2 q3
   go_wp2
   go_ret
   exact HP.out
end
section
open Go.RowKit Plain
end
section
open Go.RowKit Plain
end
section
open Go.RowKit Plain
end
section
open Plain
end
end Go.Proofs.YtgfkglhelfkpoaaGreat
