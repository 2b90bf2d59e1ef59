/- Texts put together: WMulS2, WMulI, WMulS3. -/
import Derived.Test.YtgfkglhelfkpoaaGreatRSJ
import Derived.Test.YtgfkglhelfkpoaaGreatRSH
import Derived.Test.YtgfkglhelfkpoaaGreatRSI
set_option maxRecDepth 100000
set_option maxHeartbeats 8000000
open Go.Lib (hid)
namespace Go.Proofs.YtgfkglhelfkpoaaGreat
section
open Go.RowKit Plain
open Classical in
noncomputable def mulP (ts us:List Term'):List Term'×Bool:=if bigP ts us then ([],false) else (nfT (prods ts us),true)
theorem mulP_big {ts us:List Term'} (h:bigP ts us):mulP ts us=([],false):=by unfold mulP;rw [if_pos h]
theorem mulP_ok {ts us:List Term'} (h:¬ bigP ts us):mulP ts us=(nfT (prods ts us),true):=by unfold mulP;rw [if_neg h]
def MulR (u:Int) (ts us:List Term') (w:World) (e:Ending) (w':World):Prop:=
 ∃ A cp R ok,mulP ts us=(R,ok)∧e=.returned (.tuple #[poV u A R.length cp,.bool ok])∧TRow w' w.heap.size (.slice A R.length cp) R∧Below w.heap.size w w'
theorem mulEnd {w W0 wx:World} {u:Int} {n m cp:Nat} {A:Option Addr} {L R ts us:List Term'} {ok:Bool} (hb0:Below w.heap.size w W0) (hs:W0.heap.size=w.heap.size+1+1) (h:DSt W0 (w.heap.size+1) (w.heap.size+1+1) u L n R m cp A wx) (hm:mulP ts us=(R,ok)) :
  MulR u ts us w (.returned (.tuple #[poV u A m cp,.bool ok])) ((wx.setCell ⟨w.heap.size,0,none⟩ (.int .i64 u)).setCell ⟨w.heap.size,1,none⟩ (.slice A m cp)):=by
 have hlen:=h.len
 have hO2:Only (fun q=>q=w.heap.size) wx ((wx.setCell ⟨w.heap.size,0,none⟩ (.int .i64 u)).setCell ⟨w.heap.size,1,none⟩ (.slice A m cp)):=
  ⟨rfl,rfl,rfl,by simp [World.setCell],fun q _ hq=>(Below.heap_setCell _ _ _ _ hq).trans (Below.heap_setCell _ _ _ _ hq)⟩
 have hrow:=h.row'.only hO2 (fun q hq e=>by have e':q=w.heap.size:=e;omega)
 have hbw:Below w.heap.size w wx:=hb0.trans (h.only.below (by omega) (fun k hk=>by omega))
 exact ⟨A,cp,R,ok,hm,by rw [hlen],hrow.lower (by omega),(hbw.setCell (p:=⟨w.heap.size,0,none⟩) (Nat.le_refl _) _).setCell (p:=⟨w.heap.size,1,none⟩) (Nat.le_refl _) _⟩
def mixE (n:Nat) (E F:List Int) (v:Nat):List Int:=mk n (fun k=>if k<v then cf E k+cf F k else cf E k)
theorem mixE_len (n:Nat) (E F:List Int) (v:Nat):(mixE n E F v).length=n:=mk_length _ _
theorem mixE_zero {n:Nat} {E F:List Int} (h:E.length=n):mixE n E F 0=E:=by
 refine List.ext_getElem (by rw [mixE_len,h]) fun k h1 h2=>?_
 simp only [mixE,mk,List.getElem_map,List.getElem_range,Nat.not_lt_zero,if_false]
 exact (getElem_cf h2).symm
theorem mixE_at {n v:Nat} {E F:List Int} (h:v<n):cf (mixE n E F v) v=cf E v:=by
 unfold mixE;rw [cf_mk h,if_neg (Nat.lt_irrefl v)]
theorem mixE_set {n v:Nat} {E F:List Int} (h:v<n):(mixE n E F v).set v (cf E v+cf F v)=mixE n E F (v+1):=by
 refine List.ext_getElem (by rw [List.length_set,mixE_len,mixE_len]) fun k h1 h2=>?_
 rw [List.getElem_set]
 by_cases e:v=k
 ·subst e
  rw [if_pos rfl,getElem_cf h2]
  unfold mixE;rw [cf_mk h,if_pos (Nat.lt_succ_self v)]
 ·rw [if_neg e]
  rw [mixE_len] at h2
  rw [getElem_cf (by rw [mixE_len];exact h2),getElem_cf (by rw [mixE_len];exact h2)]
  unfold mixE
  rw [cf_mk h2,cf_mk h2]
  by_cases hk:k<v
  ·rw [if_pos hk,if_pos (by omega)]
  ·rw [if_neg hk,if_neg (by omega)]
theorem mixE_all {n:Nat} {E F:List Int} (h1:E.length=n) (h2:F.length=n):mixE n E F n=addL E F:=by
 rw [←mk_addL h1 h2]
 unfold mixE mk
 refine List.map_congr_left fun k hk=>?_
 rw [if_pos (List.mem_range.1 hk)]
theorem keep5b {w w':World} {B b1 b2 b3 b4 b5 o1 o2 o3 o4 o5:Nat} {x1 x2 x3 x4 x5:Value} (h:w.cell? ⟨b1,o1,none⟩=some x1∧w.cell? ⟨b2,o2,none⟩=some x2∧w.cell? ⟨b3,o3,none⟩=some x3∧w.cell? ⟨b4,o4,none⟩=some x4∧w.cell? ⟨b5,o5,none⟩=some x5) (hl:b1<B∧b2<B∧b3<B∧b4<B∧b5<B) (hb:Below B w w') :
  w'.cell? ⟨b1,o1,none⟩=some x1∧w'.cell? ⟨b2,o2,none⟩=some x2∧w'.cell? ⟨b3,o3,none⟩=some x3∧w'.cell? ⟨b4,o4,none⟩=some x4∧w'.cell? ⟨b5,o5,none⟩=some x5:=
 ⟨(hb.cell (p:=⟨b1,o1,none⟩) hl.1).trans h.1,(hb.cell (p:=⟨b2,o2,none⟩) hl.2.1).trans h.2.1,(hb.cell (p:=⟨b3,o3,none⟩) hl.2.2.1).trans h.2.2.1,(hb.cell (p:=⟨b4,o4,none⟩) hl.2.2.2.1).trans h.2.2.2.1,(hb.cell (p:=⟨b5,o5,none⟩) hl.2.2.2.2).trans h.2.2.2.2⟩
theorem l05Mul_any (b1 o1 b2 o2:Nat) (u:Int) (A1 A2:Option Addr) (c1 c2:Nat) (ts us:List Term') (w:World) (h00:w.cell? ⟨b1,o1,none⟩=some (.int .i64 u)) (h01:w.cell? ⟨b1,o1+1,none⟩=some (.slice A1 ts.length c1))
  (h11:w.cell? ⟨b2,o2+1,none⟩=some (.slice A2 us.length c2)) (hT:TmsAt w A1 ts) (hU:TmsAt w A2 us) (hok:polyOk u ts=true) (hok2:polyOk u us=true) :
  Calls Tryz.prog 248 #[ptr b1 o1,ptr b2 o2] w (MulR u ts us w):=by
 have hl1:=(polyOk_size hok).2.2
 have hl2:=(polyOk_size hok2).2.2
 obtain ⟨n,hn⟩:∃ n,n=u.toNat:=⟨_,rfl⟩
 have hn12:n≤12:=by have:=polyOk_size hok;omega
 have HN1:Hid (LenT n ts):=by rw [hn];exact polyOk_len' hok
 have HN2:Hid (LenT n us):=by rw [hn];exact polyOk_len' hok2
 have HOK1:=hid hok
 have HOK2:=hid hok2
 have HLN:Hid (∀ i j,i≤ts.length→j≤us.length→(prods (ts.take i) us++(us.take j).map (prodT (tmAt ts i))).length≤20000):=fun i j h1 h2=>by
  rw [List.length_append,prods_len,List.length_map,List.length_take,List.length_take]
  have:(min i ts.length)*us.length≤120*120:=Nat.mul_le_mul (by omega) hl2
  omega
 have hb1w:b1<w.heap.size:=World.block_lt_of_cell? _ _ h00
 have hb2w:b2<w.heap.size:=World.block_lt_of_cell? _ _ h11
 obtain ⟨W0,hW0⟩:∃ W0,W0=(w.alloc (.cells #[.int .i64 0,.slice none 0 0] 86)).alloc (.cells #[.int .i64 u,.slice none 0 0] 86):=⟨_,rfl⟩
 have hW0s:W0.heap.size=w.heap.size+1+1:=by rw [hW0];simp
 have HB0:Hid (Below w.heap.size w W0):=by show Below _ _ _;rw [hW0];go_grown
 have HBX:Hid (Cells W0 w.heap.size 86 [.int .i64 0,.slice none 0 0]):=by
  show Cells _ _ _ _
  rw [hW0]
  exact (Cells.new w 86 [.int .i64 0,.slice none 0 0]).next (by go_grown)
 have HST:Hid (DSt W0 (w.heap.size+1) (w.heap.size+1+1) u [] n [] 0 0 none W0):=by
  refine ⟨?_,rfl,TRow.nilv _ _,Canon.nil,fun e=>rfl,fun t ht=>by simp at ht,Only.refl _ _,by omega,hW0s.symm⟩
  rw [hW0]
  have:=Cells.new (w.alloc (.cells #[.int .i64 0,.slice none 0 0] 86)) 86 [.int .i64 u,.slice none 0 0]
  simpa using this
 have HT:=hid hT
 have HU:=hid hU
 have HD1:=hid (fun wx (h:Below W0.heap.size W0 wx)=>degreeS_any b1 o1 u A1 c1 ts wx (keepC (keepC h01 HB0.out) h) ((HT.out.below HB0.out).below h) hok)
 have HD2:=hid (fun wx (h:Below W0.heap.size W0 wx)=>degreeS_any b2 o2 u A2 c2 us wx (keepC (keepC h11 HB0.out) h) ((HU.out.below HB0.out).below h) hok2)
 have HQ:Hid (W0.cell? ⟨b1,o1+1,none⟩=some (.slice A1 ts.length c1)∧W0.cell? ⟨b2,o2+1,none⟩=some (.slice A2 us.length c2)):=⟨keepC h01 HB0.out,keepC h11 HB0.out⟩
 have q1:=HQ.out.1
 have q2:=HQ.out.2
 have p0:W0.cell? ⟨w.heap.size+1,0,none⟩=some (.int .i64 u):=by rw [HST.out.box.cell];rfl
 have p1:W0.cell? ⟨w.heap.size+1,1,none⟩=some (.slice none 0 0):=by rw [HST.out.box.cell];rfl
 have y0:W0.cell? ⟨w.heap.size,0,none⟩=some (.int .i64 0):=by rw [HBX.out.cell];rfl
 have y1:W0.cell? ⟨w.heap.size,1,none⟩=some (.slice none 0 0):=by rw [HBX.out.cell];rfl
 have f0:W0.frozen? ⟨w.heap.size,0,none⟩=false:=HBX.out.frozen _
 have f1:W0.frozen? ⟨w.heap.size,1,none⟩=false:=HBX.out.frozen _
 have z0:=(HBX.out.set_ 0 (.int .i64 u)).cell 0
 have z1:=((HBX.out.set_ 0 (.int .i64 u)).set_ 1 (.slice none 0 0)).cell 1
 simp only [List.set_cons_zero,List.set_cons_succ,List.getElem?_cons_zero,List.getElem?_cons_succ] at z0 z1
 have HWS:=hid hW0s
 have HW0:=hid hW0
 have HQW:Hid (w.cell? ⟨b1,o1,none⟩=some (.int .i64 u)∧w.cell? ⟨b1,o1+1,none⟩=some (.slice A1 ts.length c1)∧w.cell? ⟨b2,o2+1,none⟩=some (.slice A2 us.length c2)):=⟨h00,h01,h11⟩
 clear hT hU hok hok2 hW0 hW0s hn h01 h11
 by_cases ht0:ts.length=0
 ·have HE:=mulEnd (ts:=ts) (us:=us) HB0.out HWS.out HST.out (ok:=true) (by
   have e:ts=[]:=List.length_eq_zero_iff.1 ht0
   rw [mulP_ok (fun h=>h.1 e),e,show prods [] us=[] from rfl,nfT_self Canon.nil])
  have HE:=hid HE
  have htz:(ts.length:Int)=0:=by omega
  have h01:=HQW.out.2.1
  go_enter Tryz.func248,Tryz.ntmps248
  go_upto_region 2 with fail
  rw [←HW0.out]
  go_wp2
  refine bodyPost_ret (v:=.tuple #[poV u none 0 0,.bool true]) (by simp [results,Tryz.results248,go_sem,z0,z1]) rfl ?_
  exact HE.out
 by_cases hu0:us.length=0
 ·have HE:=mulEnd (ts:=ts) (us:=us) HB0.out HWS.out HST.out (ok:=true) (by
   have e:us=[]:=List.length_eq_zero_iff.1 hu0
   have e2:prods ts []=[]:=List.length_eq_zero_iff.1 (by rw [prods_len];rfl)
   rw [mulP_ok (fun h=>h.2.1 e),e,e2,nfT_self Canon.nil])
  have HE:=hid HE
  have htz:(us.length:Int)=0:=by omega
  have htn:¬ (ts.length:Int)=0:=by omega
  go_enter Tryz.func248,Tryz.ntmps248
  go_upto_region 2 with fail
  rw [←HW0.out]
  go_wp2
  refine bodyPost_ret (v:=.tuple #[poV u none 0 0,.bool true]) (by simp [results,Tryz.results248,go_sem,z0,z1]) rfl ?_
  exact HE.out
 have hd1:=mdgL_bd HOK1.out ts.length (Nat.le_refl _)
 have hd2:=mdgL_bd HOK2.out us.length (Nat.le_refl _)
 have HBP:Hid (bigP ts us ↔ 12<mdgL ts ts.length+mdgL us us.length):=⟨fun h=>h.2.2,fun h=>⟨fun e=>ht0 (by rw [e];rfl),fun e=>hu0 (by rw [e];rfl),h⟩⟩
 obtain ⟨e1,he1⟩:∃ e1,e1=mdgL ts ts.length:=⟨_,rfl⟩
 obtain ⟨e2,he2⟩:∃ e2,e2=mdgL us us.length:=⟨_,rfl⟩
 rw [←he1] at hd1 HD1 HBP
 rw [←he2] at hd2 HD2 HBP
 have hw12:IntKind.i64.wrap (e1+e2)=e1+e2:=by rw [IntKind.wrap_i64];omega
 have htn:¬ (ts.length:Int)=0:=by omega
 have hun:¬ (us.length:Int)=0:=by omega
 have htb:((ts.length:Int)==0)=false:=beq_eq_false_iff_ne.2 htn
 have hub:((us.length:Int)==0)=false:=beq_eq_false_iff_ne.2 hun
 clear he1 he2
 by_cases hbig:12<e1+e2
 ·have HE:=hid (mulEnd (ts:=ts) (us:=us) HB0.out HWS.out HST.out (ok:=false) (mulP_big (HBP.out.2 hbig)))
  go_enter Tryz.func248,Tryz.ntmps248
  go_upto_region 2 with fail
  rw [←HW0.out]
  go_wp2_with fail
  refine (HD1.out _ (Below.refl _ _)).mono ?_
  rintro e w' ⟨rfl,rfl⟩
  go_wp2_with fail
  refine (HD2.out _ (Below.refl _ _)).mono ?_
  rintro e w' ⟨rfl,rfl⟩
  go_wp2
  refine bodyPost_ret (v:=.tuple #[poV u none 0 0,.bool false]) (by simp [results,Tryz.results248,go_sem,z0,z1]) rfl ?_
  exact HE.out
 have HMO:Hid (mulP ts us=(nfT (prods ts us),true)):=mulP_ok (fun h=>hbig (HBP.out.1 h))
 have hbig':e1+e2≤12:=by omega
 go_enter Tryz.func248,Tryz.ntmps248
 go_upto_region 2 with fail
 rw [←HW0.out]
 go_wp2_with fail
 refine (HD1.out _ (Below.refl _ _)).mono ?_
 rintro e w' ⟨rfl,rfl⟩
 go_wp2_with fail
 refine (HD2.out _ (Below.refl _ _)).mono ?_
 rintro e w' ⟨rfl,rfl⟩
 clear y0 y1 f0 f1 z0 z1 p0 p1
 go_wp2_with fail
 clear HD1 HD2 hd1 hd2 HBP hbig hbig' hw12 q1 q2 h00
 go_loopg [7] (ts.length+1) (fun kx s7 wr=>∃ (i:Nat) (out:List Term') (m cp:Nat) (A':Option Addr),s7=.int .i64 (i:Int)∧i≤ts.length∧ts.length - i<kx∧Hid (m≤(prods (ts.take i) us).length)∧Hid (DSt W0 (w.heap.size+1) (w.heap.size+1+1) u (prods (ts.take i) us) n out m cp A' wr))
 case atStart=>exact ⟨0,[],0,0,none,by first | rfl | go_num,by omega,by omega,Nat.zero_le _,HST⟩
 case round=>
  clear HST
  obtain ⟨i,out,m,cp,A',rfl,hin,hkx,HM,HG⟩:=hrel
  obtain ⟨wo,rfl⟩:∃ x,x=wr:=⟨_,rfl⟩
  have HBW:Hid (Below w.heap.size w wo):=HB0.out.trans (HG.out.only.below (by have:=HWS.out;omega) (fun k hk=>by omega))
  have q1:wo.cell? ⟨b1,o1+1,none⟩=some (.slice A1 ts.length c1):=keepC HQW.out.2.1 HBW.out
  have q2:wo.cell? ⟨b2,o2+1,none⟩=some (.slice A2 us.length c2):=keepC HQW.out.2.2 HBW.out
  by_cases hlt:i<ts.length
  ·have hiz:(i:Int)<(ts.length:Int):=by omega
   obtain ⟨bt,ot,Ai,ci,rfl,hbt,t0',t1',tI,_⟩:=HT.out.at_ hlt
   have hlen:(tmAt ts i).1.length=n:=HN1.out _ (tmAt_mem hlt)
   have hok1:=termOk_parts (polyOk_mem HOK1.out (tmAt_mem hlt))
   rw [hlen] at t0'
   obtain ⟨c,hc⟩:∃ c,c=(tmAt ts i).2:=⟨_,rfl⟩
   obtain ⟨E,hE⟩:∃ E,E=(tmAt ts i).1:=⟨_,rfl⟩
   rw [←hc] at t1'
   have HEB:Hid (∀ k,0≤cf E k∧cf E k≤12):=fun k=>by rw [hE];exact expsOk_bd hok1.2.2.2.1 k
   have HIE:Hid (Ints w Ai E):=by rw [hE];exact tI
   have HEL:Hid (E.length=n):=by rw [hE];exact hlen
   have HE:Hid ((E,c)=tmAt ts i):=by show _=_;rw [hE,hc]
   have HTQ:Hid (w.cell? ⟨bt,ot+i*2,none⟩=some (.slice Ai n ci)∧w.cell? ⟨bt,ot+i*2+1,none⟩=some (.int .i64 c)):=⟨t0',t1'⟩
   clear hok1 hlen tI hc hE t0' t1'
   have HLE0:Hid (m≤(prods (ts.take i) us++(us.take 0).map (prodT (tmAt ts i))).length):=by show _≤_;have:=HM.out;simpa using this
   have HG0:Hid (DSt W0 (w.heap.size+1) (w.heap.size+1+1) u (prods (ts.take i) us++(us.take 0).map (prodT (tmAt ts i))) n out m cp A' wo):=HG.out.same (by simp)
   clear HM HG
   go_wp2_with fail
   go_loopg [8] (us.length+1) (fun ky s8 wr=>∃ (k:Nat) (out:List Term') (m cp:Nat) (A':Option Addr),s8=.int .i64 (k:Int)∧k≤us.length∧us.length - k<ky∧Hid (m≤(prods (ts.take i) us++(us.take k).map (prodT (tmAt ts i))).length)∧Hid (DSt W0 (w.heap.size+1) (w.heap.size+1+1) u (prods (ts.take i) us++(us.take k).map (prodT (tmAt ts i))) n out m cp A' wr))
   case atStart=>exact ⟨0,out,m,cp,A',by first | rfl | go_num,by omega,by omega,HLE0,HG0⟩
   case round=>
    clear HLE0 HG0 q1 q2 HBW
    obtain ⟨k,out,m,cp,A',rfl,hkn,hky,HM,HG⟩:=hrel
    obtain ⟨wi,rfl⟩:∃ x,x=wr:=⟨_,rfl⟩
    have HBW:Hid (Below w.heap.size w wi):=HB0.out.trans (HG.out.only.below (by have:=HWS.out;omega) (fun k hk=>by omega))
    have q1:wi.cell? ⟨b1,o1+1,none⟩=some (.slice (some ⟨bt,ot,none⟩) ts.length c1):=keepC HQW.out.2.1 HBW.out
    have q2:wi.cell? ⟨b2,o2+1,none⟩=some (.slice A2 us.length c2):=keepC HQW.out.2.2 HBW.out
    have t0:=keepC HTQ.out.1 HBW.out
    by_cases hklt:k<us.length
    ·have hkz:(k:Int)<(us.length:Int):=by omega
     obtain ⟨bu,ou,Aj,cj,rfl,hbu,t2',t3',tJ,_⟩:=HU.out.at_ hklt
     have hlen:(tmAt us k).1.length=n:=HN2.out _ (tmAt_mem hklt)
     have hok1:=termOk_parts (polyOk_mem HOK2.out (tmAt_mem hklt))
     rw [hlen] at t2'
     obtain ⟨d,hd⟩:∃ d,d=(tmAt us k).2:=⟨_,rfl⟩
     obtain ⟨F,hF⟩:∃ F,F=(tmAt us k).1:=⟨_,rfl⟩
     rw [←hd] at t3'
     have HFB:Hid (∀ k,0≤cf F k∧cf F k≤12):=fun k=>by rw [hF];exact expsOk_bd hok1.2.2.2.1 k
     have HIF:Hid (Ints w Aj F):=by rw [hF];exact tJ
     have HFL:Hid (F.length=n):=by rw [hF];exact hlen
     have HPT:Hid ((addL E F,tm c d)=prodT (tmAt ts i) (tmAt us k)):=by
      show _=_
      rw [←HE.out,hF,hd];rfl
     have HUQ:Hid (w.cell? ⟨bu,ou+k*2,none⟩=some (.slice Aj n cj)∧w.cell? ⟨bu,ou+k*2+1,none⟩=some (.int .i64 d)):=⟨t2',t3'⟩
     clear hok1 hlen tJ hd hF t2' t3'
     have HOW:Hid (Calls Tryz.prog 244 #[.slice Ai n ci] wi fun e w'=>∃ Ae ce,e=.returned (.slice Ae n ce)∧IntRow w' wi.heap.size (.slice Ae n ce) (mixE n E F 0)∧Below wi.heap.size wi w'):=by
      have h:=ownR_any Ai ci E wi (HIE.out.below HBW.out) (by rw [HEL.out];omega)
      rw [HEL.out] at h
      refine h.mono fun e w' ⟨Ac,cc,h1,h2,h3⟩=>⟨Ac,cc,by rw [HEL.out] at h1;exact h1, ?_,h3⟩
      rw [mixE_zero HEL.out]
      rw [HEL.out] at h2;exact h2
     go_wp2_with fail
     refine HOW.out.mono ?_
     rintro e w2 ⟨Ae,ce,rfl,hrow,hb2⟩
     have HROW:=hid hrow
     have HB2:=hid hb2
     clear hrow hb2 HOW q1 q2 t0
     go_wp2_with fail
     go_loopg [10] (n+1) (fun kz s10 wr=>∃ (v:Nat),s10=.int .i64 (v:Int)∧v≤n∧n - v<kz∧Hid (IntRow wr wi.heap.size (.slice Ae n ce) (mixE n E F v))∧Hid (Below wi.heap.size wi wr))
     case atStart=>exact ⟨0,by first | rfl | go_num,by omega,by omega,HROW,HB2⟩
     case round=>
      clear HROW HB2
      obtain ⟨v,rfl,hvn,hkz2,HR,HB⟩:=hrel
      have HBX:Hid (Below w.heap.size w wr):=bnext HBW.out HB.out
      have r2:wr.cell? ⟨b2,o2+1,none⟩=some (.slice (some ⟨bu,ou,none⟩) us.length c2):=keepC HQW.out.2.2 HBX.out
      by_cases hvlt:v<n
      ·have hvz:(v:Int)<(n:Int):=by omega
       have hRl:IntRow wr wi.heap.size (.slice Ae (mixE n E F v).length ce) (mixE n E F v):=by rw [mixE_len];exact HR.out
       obtain ⟨ge,rfl,hg1,hg2,hg3,hg4⟩:=hRl.at_ (n:=n) (mixE_len n E F v).symm hvlt
       rw [mixE_at hvlt] at hg3
       obtain ⟨bf,of_,rfl,hbf,hcf⟩:=(HIF.out.below HBX.out).cfAt (by rw [HFL.out];omega)
       have e1:=hcf v (by rw [HFL.out];exact hvlt)
       have t2:=keepC HUQ.out.1 HBX.out
       have hx:=HEB.out v
       have hy:=HFB.out v
       have HNX:Hid (IntRow (wr.setCell ⟨ge,v,none⟩ (.int .i64 (cf E v+cf F v))) wi.heap.size (.slice (some ⟨ge,0,none⟩) n ce) (mixE n E F (v+1))):=by
        have h:=hRl.setAt v (cf E v+cf F v)
        rw [mixE_set hvlt,mixE_len] at h;exact h
       obtain ⟨x,hxx⟩:∃ x,x=cf E v:=⟨_,rfl⟩
       obtain ⟨y,hyy⟩:∃ y,y=cf F v:=⟨_,rfl⟩
       rw [←hxx] at hx hg3 HNX
       rw [←hyy] at e1 hy HNX
       have hws:IntKind.i64.wrap (x+y)=x+y:=by rw [IntKind.wrap_i64];omega
       have HBN:Hid (Below wi.heap.size wi (wr.setCell ⟨ge,v,none⟩ (.int .i64 (x+y)))):=HB.out.setCell (p:=⟨ge,v,none⟩) hg1 _
       have HS0:Hid (wr.cell? ⟨ge,v,none⟩=some (.int .i64 x)∧wr.cell? ⟨b2,o2+1,none⟩=some (.slice (some ⟨bu,ou,none⟩) us.length c2)∧wr.cell? ⟨bu,ou+k*2,none⟩=some (.slice (some ⟨bf,of_,none⟩) n cj)∧wr.cell? ⟨bf,of_+v,none⟩=some (.int .i64 y)):=⟨hg3,r2,t2,e1⟩
       clear hRl hcf hxx hyy HR HB
       go_wp2_with fail
       refine RegE.start (S:=(fun wx=>wx.cell? ⟨ge,v,none⟩=some (.int .i64 x)∧wx.cell? ⟨b2,o2+1,none⟩=some (.slice (some ⟨bu,ou,none⟩) us.length c2)∧wx.cell? ⟨bu,ou+k*2,none⟩=some (.slice (some ⟨bf,of_,none⟩) n cj)∧wx.cell? ⟨bf,of_+v,none⟩=some (.int .i64 y))) 17 (by kernel_rfl) (by kernel_rfl) ?S0 (fun hHeld hB=>?_)
       case S0=>((try dsimp only);exact HS0.out)
       refine RegE.take (i:=0) (v:=?v0) hB rfl (by decide) (by kernel_rfl) (by kernel_rfl) (fun _ _ _ h=>h) (Or.inl ⟨by rfl, ?y0⟩) hHeld ?r0
       case y0=>((intro w hSw;(try dsimp only at hSw);go_simp)<;>with_reducible rfl)
       (try simp only [Act.put,List.setIfInBounds_toArray])
       refine RegE.take (i:=1) (v:=?v1) hB rfl (by decide) (by kernel_rfl) (by kernel_rfl) (fun _ _ _ h=>h) (Or.inl ⟨by rfl, ?y1⟩) hHeld ?r1
       case y1=>((intro w hSw;(try dsimp only at hSw);go_simp)<;>with_reducible rfl)
       (try simp only [Act.put])
       refine RegE.take (i:=2) (v:=?v2) hB rfl (by decide) (by kernel_rfl) (by kernel_rfl) (fun _ _ _ h=>h) (Or.inl ⟨by rfl, ?y2⟩) hHeld ?r2
       case y2=>((intro w hSw;(try dsimp only at hSw);go_simp)<;>with_reducible rfl)
       (try simp only [Act.put])
       refine RegE.take (i:=3) (v:=?v3) hB rfl (by decide) (by kernel_rfl) (by kernel_rfl) (fun _ _ _ h=>h) (Or.inl ⟨by rfl, ?y3⟩) hHeld ?r3
       case y3=>((intro w hSw;(try dsimp only at hSw);go_simp)<;>with_reducible rfl)
       (try simp only [Act.put])
       refine RegE.take (i:=4) (v:=?v4) hB rfl (by decide) (by kernel_rfl) (by kernel_rfl) (fun _ _ _ h=>h) (Or.inl ⟨by rfl, ?y4⟩) hHeld ?r4
       case y4=>((intro w hSw;(try dsimp only at hSw);go_simp)<;>with_reducible rfl)
       (try simp only [Act.put])
       refine RegE.take (i:=5) (v:=?v5) hB rfl (by decide) (by kernel_rfl) (by kernel_rfl) (fun _ _ _ h=>h) (Or.inl ⟨by rfl, ?y5⟩) hHeld ?r5
       case y5=>((intro w hSw;(try dsimp only at hSw);go_simp)<;>with_reducible rfl)
       (try simp only [Act.put])
       refine RegE.take (i:=6) (v:=?v6) hB rfl (by decide) (by kernel_rfl) (by kernel_rfl) (fun _ _ _ h=>h) (Or.inl ⟨by rfl, ?y6⟩) hHeld ?r6
       case y6=>((intro w hSw;(try dsimp only at hSw);go_simp)<;>with_reducible rfl)
       (try simp only [Act.put])
       refine RegE.take (i:=7) (v:=?v7) hB rfl (by decide) (by kernel_rfl) (by kernel_rfl) (fun _ _ _ h=>h) (Or.inl ⟨by rfl, ?y7⟩) hHeld ?r7
       case y7=>((intro w hSw;(try dsimp only at hSw);go_simp)<;>with_reducible rfl)
       (try simp only [Act.put])
       refine RegE.take (i:=8) (v:=?v8) hB rfl (by decide) (by kernel_rfl) (by kernel_rfl) (fun _ _ _ h=>h) (Or.inl ⟨by rfl, ?y8⟩) hHeld ?r8
       case y8=>((intro w hSw;(try dsimp only at hSw);go_simp)<;>with_reducible rfl)
       (try simp only [Act.put])
       refine RegE.take (i:=9) (v:=?v9) hB rfl (by decide) (by kernel_rfl) (by kernel_rfl) (fun _ _ _ h=>h) (Or.inl ⟨by rfl, ?y9⟩) hHeld ?r9
       case y9=>((intro w hSw;(try dsimp only at hSw);go_simp)<;>with_reducible rfl)
       (try simp only [Act.put])
       refine RegE.take (i:=10) (v:=?v10) hB rfl (by decide) (by kernel_rfl) (by kernel_rfl) (fun _ _ _ h=>h) (Or.inl ⟨by rfl, ?y10⟩) hHeld ?r10
       case y10=>((intro w hSw;(try dsimp only at hSw);go_simp)<;>with_reducible rfl)
       (try simp only [Act.put])
       refine RegE.take (i:=11) (v:=?v11) hB rfl (by decide) (by kernel_rfl) (by kernel_rfl) (fun _ _ _ h=>h) (Or.inl ⟨by rfl, ?y11⟩) hHeld ?r11
       case y11=>((intro w hSw;(try dsimp only at hSw);go_simp)<;>with_reducible rfl)
       (try simp only [Act.put])
       refine RegE.take (i:=12) (v:=?v12) hB rfl (by decide) (by kernel_rfl) (by kernel_rfl) (fun _ _ _ h=>h) (Or.inl ⟨by rfl, ?y12⟩) hHeld ?r12
       case y12=>((intro w hSw;(try dsimp only at hSw);go_simp)<;>with_reducible rfl)
       (try simp only [Act.put])
       refine RegE.take (i:=13) (v:=?v13) hB rfl (by decide) (by kernel_rfl) (by kernel_rfl) (fun _ _ _ h=>h) (Or.inl ⟨by rfl, ?y13⟩) hHeld ?r13
       case y13=>((intro w hSw;(try dsimp only at hSw);go_simp)<;>with_reducible rfl)
       (try simp only [Act.put])
       refine RegE.take (i:=14) (v:=?v14) hB rfl (by decide) (by kernel_rfl) (by kernel_rfl) (fun _ _ _ h=>h) (Or.inl ⟨by rfl, ?y14⟩) hHeld ?r14
       case y14=>((intro w hSw;(try dsimp only at hSw);go_simp)<;>with_reducible rfl)
       (try simp only [Act.put])
       refine RegE.take (i:=15) (v:=?v15) hB rfl (by decide) (by kernel_rfl) (by kernel_rfl) (fun _ _ _ h=>h) (Or.inl ⟨by rfl, ?y15⟩) hHeld ?r15
       case y15=>((intro w hSw;(try dsimp only at hSw);go_simp)<;>with_reducible rfl)
       (try simp only [Act.put])
       refine RegE.take (i:=16) (v:=?v16) hB rfl (by decide) (by kernel_rfl) (by kernel_rfl) (fun _ _ _ h=>h) (Or.inl ⟨by rfl, ?y16⟩) hHeld ?r16
       case y16=>((intro w hSw;(try dsimp only at hSw);go_simp)<;>with_reducible rfl)
       (try simp only [Act.put])
       refine RegE.last rfl (by kernel_rfl) (by kernel_rfl) (fun K hK=>?_)
       go_simp
       refine hK.out _ _ ?_
       clear hK K
       have HNX2:Hid (IntRow (wr.setCell ⟨ge,v,none⟩ (.int .i64 (x+y))).drew wi.heap.size (.slice (some ⟨ge,0,none⟩) n ce) (mixE n E F (v+1))):=HNX.out
       have HBN2:Hid (Below wi.heap.size wi (wr.setCell ⟨ge,v,none⟩ (.int .i64 (x+y))).drew):=HBN.out.drew
       clear HNX HBN hHeld
       go_wp2
       go_roundg (n - (v+1)+1)
       case measure=>omega
       case rel=>exact ⟨v+1,by first | rfl | go_num,by omega,by omega,HNX2,HBN2⟩
      ·obtain rfl:v=n:=by omega
       have hvz:¬ (v:Int)<(v:Int):=by omega
       have r1:wr.cell? ⟨b1,o1+1,none⟩=some (.slice (some ⟨bt,ot,none⟩) ts.length c1):=keepC HQW.out.2.1 HBX.out
       have t1:=keepC HTQ.out.2 HBX.out
       have t3:=keepC HUQ.out.2 HBX.out
       have HG2:=hid (HG.out.next HB.out)
       have hp1:wr.cell? ⟨w.heap.size+1,1,none⟩=some (.slice A' m cp):=by rw [HG2.out.box.cell];rfl
       have hpf:wr.frozen? ⟨w.heap.size+1,1,none⟩=false:=HG2.out.box.frozen _
       have HPL:Hid (w.heap.size+1<wr.heap.size):=HG2.out.box.lt
       have HTK:Hid (prods (ts.take i) us++(us.take k).map (prodT (tmAt ts i))++[(addL E F,tm c d)]=prods (ts.take i) us++(us.take (k+1)).map (prodT (tmAt ts i))):=by
        show _=_;rw [HPT.out,List.append_assoc,map_take_succ' hklt]
       have HTM:=hid (fun wx=>timesS_any c d wx)
       have hbd:=tm_bd c d
       have HMX:Hid (m≤20000):=Nat.le_trans HM.out (HLN.out i k (by omega) (by omega))
       have HPUT:Hid (Calls Tryz.prog 203 #[.slice A' m cp,.slice Ae v ce,.int .i64 (tm c d)] wr.drew fun e w4=>∃ A4 c4 ts4,e=.returned (.slice A4 ts4.length c4)∧Below wr.heap.size wr w4∧Hid (ts4.length≤(prods (ts.take i) us++(us.take (k+1)).map (prodT (tmAt ts i))).length)∧DSt W0 (w.heap.size+1) (w.heap.size+1+1) u (prods (ts.take i) us++(us.take (k+1)).map (prodT (tmAt ts i))) v ts4 ts4.length c4 A4 (w4.setCell ⟨w.heap.size+1,1,none⟩ (.slice A4 ts4.length c4))):=by
        have hm:out.length=m:=HG2.out.len
        have hlenA:(addL E F).length=v:=by rw [addL_length (by rw [HEL.out,HFL.out]),HEL.out]
        have hR2:IntRow wr wi.heap.size (.slice Ae (addL E F).length ce) (addL E F):=by
         have h:=HR.out
         rw [mixE_all HEL.out HFL.out] at h
         rw [hlenA];exact h
        have hRI:Ints wr Ae (addL E F):=hR2.intsM.ints
        have hmx:=HMX.out
        have h:=put_any (w.heap.size+1+1) A' Ae cp ce out (addL E F) (tm c d) wr.drew (HG2.out.row'.below (Below.refl _ _).drew) (show w.heap.size+1+1≤wr.drew.heap.size from HG2.out.size) (hRI.below (Below.refl _ _).drew) HG2.out.canon (by rw [hlenA];exact HG2.out.lenT) hbd.1 hbd.2 (by omega) (by omega)
        rw [hlenA,hm] at h
        refine h.mono fun e w4 ⟨A4,c4,ts4,h1,h2,h3,h4,h5,h6,h7⟩=>⟨A4,c4,ts4,h1,⟨h7.os,h7.tape,h7.output,h7.size,h7.block⟩, ?_, ?_⟩
        ·show _≤_
         rw [←HTK.out,List.length_append]
         have:=HM.out
         simp only [List.length_cons,List.length_nil];omega
        ·exact (DSt.put (c:=tm c d) HG2.out hlenA h2 h3 h4 h5 (⟨h7.os,h7.tape,h7.output,h7.size,h7.block⟩:Below wr.heap.size wr w4)).same HTK.out
       obtain ⟨z,hz⟩:∃ z,z=tm c d:=⟨_,rfl⟩
       rw [←hz] at HPUT HTM
       have HS0:Hid (wr.cell? ⟨w.heap.size+1,1,none⟩=some (.slice A' m cp)∧wr.cell? ⟨b1,o1+1,none⟩=some (.slice (some ⟨bt,ot,none⟩) ts.length c1)∧wr.cell? ⟨bt,ot+i*2+1,none⟩=some (.int .i64 c)∧wr.cell? ⟨b2,o2+1,none⟩=some (.slice (some ⟨bu,ou,none⟩) us.length c2)∧wr.cell? ⟨bu,ou+k*2+1,none⟩=some (.int .i64 d)):=⟨hp1,r1,t1,r2,t3⟩
       have HLL:Hid (w.heap.size+1<wr.heap.size∧b1<wr.heap.size∧bt<wr.heap.size∧b2<wr.heap.size∧bu<wr.heap.size):=by
        have:=HBX.out.size
        exact ⟨HPL.out,by omega,by omega,by omega,by omega⟩
       clear hz hbd HTK HR HG HG2 HM HPT HMX
       go_wp2_with fail
       refine RegE.start (S:=(fun wx=>wx.cell? ⟨w.heap.size+1,1,none⟩=some (.slice A' m cp)∧wx.cell? ⟨b1,o1+1,none⟩=some (.slice (some ⟨bt,ot,none⟩) ts.length c1)∧wx.cell? ⟨bt,ot+i*2+1,none⟩=some (.int .i64 c)∧wx.cell? ⟨b2,o2+1,none⟩=some (.slice (some ⟨bu,ou,none⟩) us.length c2)∧wx.cell? ⟨bu,ou+k*2+1,none⟩=some (.int .i64 d))) 22 (by kernel_rfl) (by kernel_rfl) ?Sq0 (fun hHeld hB=>?_)
       case Sq0=>((try dsimp only);exact HS0.out)
       refine RegE.take (i:=0) (v:=?vq0) hB rfl (by decide) (by kernel_rfl) (by kernel_rfl) (fun _ _ _ h=>h) (Or.inl ⟨by rfl, ?yq0⟩) hHeld ?rq0
       case yq0=>((intro w hSw;(try dsimp only at hSw);go_simp)<;>with_reducible rfl)
       (try simp only [Act.put,List.setIfInBounds_toArray])
       refine RegE.take (i:=1) (v:=?vq1) hB rfl (by decide) (by kernel_rfl) (by kernel_rfl) (fun _ _ _ h=>h) (Or.inl ⟨by rfl, ?yq1⟩) hHeld ?rq1
       case yq1=>((intro w hSw;(try dsimp only at hSw);go_simp)<;>with_reducible rfl)
       (try simp only [Act.put])
       refine RegE.take (i:=2) (v:=?vq2) hB rfl (by decide) (by kernel_rfl) (by kernel_rfl) (fun _ _ _ h=>h) (Or.inl ⟨by rfl, ?yq2⟩) hHeld ?rq2
       case yq2=>((intro w hSw;(try dsimp only at hSw);go_simp)<;>with_reducible rfl)
       (try simp only [Act.put])
       refine RegE.take (i:=3) (v:=?vq3) hB rfl (by decide) (by kernel_rfl) (by kernel_rfl) (fun _ _ _ h=>h) (Or.inl ⟨by rfl, ?yq3⟩) hHeld ?rq3
       case yq3=>((intro w hSw;(try dsimp only at hSw);go_simp)<;>with_reducible rfl)
       (try simp only [Act.put])
       refine RegE.take (i:=4) (v:=?vq4) hB rfl (by decide) (by kernel_rfl) (by kernel_rfl) (fun _ _ _ h=>h) (Or.inl ⟨by rfl, ?yq4⟩) hHeld ?rq4
       case yq4=>((intro w hSw;(try dsimp only at hSw);go_simp)<;>with_reducible rfl)
       (try simp only [Act.put])
       refine RegE.take (i:=5) (v:=?vq5) hB rfl (by decide) (by kernel_rfl) (by kernel_rfl) (fun _ _ _ h=>h) (Or.inl ⟨by rfl, ?yq5⟩) hHeld ?rq5
       case yq5=>((intro w hSw;(try dsimp only at hSw);go_simp)<;>with_reducible rfl)
       (try simp only [Act.put])
       refine RegE.take (i:=6) (v:=?vq6) hB rfl (by decide) (by kernel_rfl) (by kernel_rfl) (fun _ _ _ h=>h) (Or.inl ⟨by rfl, ?yq6⟩) hHeld ?rq6
       case yq6=>((intro w hSw;(try dsimp only at hSw);go_simp)<;>with_reducible rfl)
       (try simp only [Act.put])
       refine RegE.take (i:=7) (v:=?vq7) hB rfl (by decide) (by kernel_rfl) (by kernel_rfl) (fun _ _ _ h=>h) (Or.inl ⟨by rfl, ?yq7⟩) hHeld ?rq7
       case yq7=>((intro w hSw;(try dsimp only at hSw);go_simp)<;>with_reducible rfl)
       (try simp only [Act.put])
       refine RegE.take (i:=8) (v:=?vq8) hB rfl (by decide) (by kernel_rfl) (by kernel_rfl) (fun _ _ _ h=>h) (Or.inl ⟨by rfl, ?yq8⟩) hHeld ?rq8
       case yq8=>((intro w hSw;(try dsimp only at hSw);go_simp)<;>with_reducible rfl)
       (try simp only [Act.put])
       refine RegE.take (i:=9) (v:=?vq9) hB rfl (by decide) (by kernel_rfl) (by kernel_rfl) (fun _ _ _ h=>h) (Or.inl ⟨by rfl, ?yq9⟩) hHeld ?rq9
       case yq9=>((intro w hSw;(try dsimp only at hSw);go_simp)<;>with_reducible rfl)
       (try simp only [Act.put])
       refine RegE.take (i:=10) (v:=?vq10) hB rfl (by decide) (by kernel_rfl) (by kernel_rfl) (fun _ _ _ h=>h) (Or.inl ⟨by rfl, ?yq10⟩) hHeld ?rq10
       case yq10=>((intro w hSw;(try dsimp only at hSw);go_simp)<;>with_reducible rfl)
       (try simp only [Act.put])
       refine RegE.take (i:=11) (v:=?vq11) hB rfl (by decide) (by kernel_rfl) (by kernel_rfl) (fun _ _ _ h=>h) (Or.inl ⟨by rfl, ?yq11⟩) hHeld ?rq11
       case yq11=>((intro w hSw;(try dsimp only at hSw);go_simp)<;>with_reducible rfl)
       (try simp only [Act.put])
       refine RegE.take (i:=12) (v:=?vq12) hB rfl (by decide) (by kernel_rfl) (by kernel_rfl) (fun _ _ _ h=>h) (Or.inl ⟨by rfl, ?yq12⟩) hHeld ?rq12
       case yq12=>((intro w hSw;(try dsimp only at hSw);go_simp)<;>with_reducible rfl)
       (try simp only [Act.put])
       refine RegE.take (i:=13) (v:=?vq13) hB rfl (by decide) (by kernel_rfl) (by kernel_rfl) (fun _ _ _ h=>h) (Or.inl ⟨by rfl, ?yq13⟩) hHeld ?rq13
       case yq13=>((intro w hSw;(try dsimp only at hSw);go_simp)<;>with_reducible rfl)
       (try simp only [Act.put])
       refine RegE.take (i:=14) (v:=?vq14) hB rfl (by decide) (by kernel_rfl) (by kernel_rfl) (fun _ _ _ h=>h) (Or.inl ⟨by rfl, ?yq14⟩) hHeld ?rq14
       case yq14=>((intro w hSw;(try dsimp only at hSw);go_simp)<;>with_reducible rfl)
       (try simp only [Act.put])
       refine RegE.take (i:=15) (v:=?vq15) hB rfl (by decide) (by kernel_rfl) (by kernel_rfl) (fun _ _ _ h=>h) (Or.inl ⟨by rfl, ?yq15⟩) hHeld ?rq15
       case yq15=>((intro w hSw;(try dsimp only at hSw);go_simp)<;>with_reducible rfl)
       (try simp only [Act.put])
       refine RegE.take (i:=16) (v:=?vq16) hB rfl (by decide) (by kernel_rfl) (by kernel_rfl) (fun _ _ _ h=>h) (Or.inl ⟨by rfl, ?yq16⟩) hHeld ?rq16
       case yq16=>((intro w hSw;(try dsimp only at hSw);go_simp)<;>with_reducible rfl)
       (try simp only [Act.put])
       refine RegE.take (i:=17) (v:=?vq17) hB rfl (by decide) (by kernel_rfl) (by kernel_rfl) (fun _ _ _ h=>h) (Or.inl ⟨by rfl, ?yq17⟩) hHeld ?rq17
       case yq17=>((intro w hSw;(try dsimp only at hSw);go_simp)<;>with_reducible rfl)
       (try simp only [Act.put])
       refine RegE.take (i:=18) (v:=?vq18) hB rfl (by decide) (by kernel_rfl) (by kernel_rfl) (fun _ _ _ h=>h) (Or.inl ⟨by rfl, ?yq18⟩) hHeld ?rq18
       case yq18=>((intro w hSw;(try dsimp only at hSw);go_simp)<;>with_reducible rfl)
       (try simp only [Act.put])
       refine RegE.step (i:=19) rfl (by decide) (by kernel_rfl) (fun K hK=>?_)
       go_simp
       go_at_call 125
       refine (HTM.out _).mono ?_
       rintro e w' ⟨rfl,rfl⟩
       go_wp2_with fail
       refine hK.out _ _ ?Sq19 (fun hHeldN=>?_)
       case Sq19=>((try dsimp only);exact hHeld)
       clear hK K hHeld
       have hHeld:=hHeldN
       clear hHeldN
       (try simp only [Act.put,List.setIfInBounds_toArray,List.set_cons_zero,List.set_cons_succ])
       refine RegE.step (i:=20) rfl (by decide) (by kernel_rfl) (fun K hK=>?_)
       go_simp
       go_at_call 203
       refine HPUT.out.mono ?_
       rintro e w4 ⟨A4,c4,ts4,rfl,hb4,HM4,hD4⟩
       go_wp2_with fail
       refine hK.out _ _ ?Sq20 (fun hHeldN=>?_)
       case Sq20=>((try dsimp only);exact keep5b HS0.out HLL.out hb4)
       clear hK K hHeld
       have hHeld:=hHeldN
       clear hHeldN
       (try simp only [Act.put,List.setIfInBounds_toArray,List.set_cons_zero,List.set_cons_succ])
       refine RegE.take (i:=21) (v:=?vq21) hB rfl (by decide) (by kernel_rfl) (by kernel_rfl) (fun _ _ _ h=>h) (Or.inl ⟨by rfl, ?yq21⟩) hHeld ?rq21
       case yq21=>((intro w hSw;(try dsimp only at hSw);go_simp)<;>with_reducible rfl)
       (try simp only [Act.put,List.setIfInBounds_toArray])
       have z1:=(hb4.cell (p:=⟨w.heap.size+1,1,none⟩) HPL.out).trans hp1
       have z2:=(hb4.frozen (p:=⟨w.heap.size+1,1,none⟩) HPL.out).trans hpf
       refine RegE.last rfl (by kernel_rfl) (by kernel_rfl) (fun K hK=>?_)
       go_simp
       refine hK.out _ _ ?_
       clear hK K
       have HD4:=hid hD4
       clear hD4 hb4 hHeld
       go_wp2
       go_roundg (us.length - (k+1)+1)
       case measure=>omega
       case rel=>exact ⟨k+1,ts4,_,c4,A4,by first | rfl | go_num,by omega,by omega,HM4,HD4⟩
    ·obtain rfl:k=us.length:=by omega
     have hkz:¬ (us.length:Int)<(us.length:Int):=by omega
     have HM2:Hid (m≤(prods (ts.take (i+1)) us).length):=by show _≤_;have h:=HM.out;rwa [List.take_length,prods_take hlt] at h
     have HG2:Hid (DSt W0 (w.heap.size+1) (w.heap.size+1+1) u (prods (ts.take (i+1)) us) n out m cp A' wi):=HG.out.same (by rw [List.take_length,prods_take hlt])
     clear HM HG
     go_wp2
     go_roundg (ts.length - (i+1)+1)
     case measure=>omega
     case rel=>exact ⟨i+1,out,m,cp,A',by first | rfl | go_num,by omega,by omega,HM2,HG2⟩
  ·obtain rfl:i=ts.length:=by omega
   have hb:=HG.out.box
   have x0:wo.cell? ⟨w.heap.size+1,0,none⟩=some (.int .i64 u):=by rw [hb.cell];rfl
   have x1:wo.cell? ⟨w.heap.size+1,1,none⟩=some (.slice A' m cp):=by rw [hb.cell];rfl
   have hC:Cells wo w.heap.size 86 [.int .i64 0,.slice none 0 0]:=(HG.out.only.block w.heap.size (by have:=HWS.out;omega) (by omega)).trans HBX.out
   have y0:wo.cell? ⟨w.heap.size,0,none⟩=some (.int .i64 0):=by rw [hC.cell];rfl
   have y1:wo.cell? ⟨w.heap.size,1,none⟩=some (.slice none 0 0):=by rw [hC.cell];rfl
   have f0:wo.frozen? ⟨w.heap.size,0,none⟩=false:=hC.frozen _
   have f1:wo.frozen? ⟨w.heap.size,1,none⟩=false:=hC.frozen _
   have hD1:=hC.set_ 0 (.int .i64 u)
   have hD2:=hD1.set_ 1 (.slice A' m cp)
   have z0:=hD1.cell 0
   have z1:=hD2.cell 1
   simp only [List.set_cons_zero,List.set_cons_succ,List.getElem?_cons_zero,List.getElem?_cons_succ] at z0 z1
   have HE:=hid (mulEnd (ts:=ts) (us:=us) HB0.out HWS.out HG.out (ok:=true) (by
    have hcofs:=HG.out.cofs
    rw [List.take_length] at hcofs
    rw [HMO.out,←nfT_eq HG.out.canon hcofs]))
   have hz:¬ (ts.length:Int)<(ts.length:Int):=by omega
   clear hb hC hD1 hD2 HG
   go_wp2
   refine bodyPost_ret (v:=.tuple #[poV u A' m cp,.bool true]) (by simp [results,Tryz.results248,go_sem,z0,z1]) rfl ?_
   exact HE.out
end
section
open Go.RowKit Plain
end
section
open Go.RowKit Plain
end
end Go.Proofs.YtgfkglhelfkpoaaGreat
