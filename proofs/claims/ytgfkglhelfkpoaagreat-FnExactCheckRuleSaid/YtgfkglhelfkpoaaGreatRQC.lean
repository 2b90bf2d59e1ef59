/- Texts put together: WChk3, WChk4, WRuleO, WRuleR. -/
import Derived.Test.YtgfkglhelfkpoaaGreatRQB
import Derived.Test.YtgfkglhelfkpoaaGreatRH
import Derived.Test.YtgfkglhelfkpoaaGreatRSN
import Derived.Test.YtgfkglhelfkpoaaGreatRSQ
import Derived.Test.YtgfkglhelfkpoaaGreatRC
set_option maxRecDepth 100000
set_option maxHeartbeats 4000000
open Go.Lib (hid)
namespace Go.Proofs.YtgfkglhelfkpoaaGreat
section
open Go.RowKit Plain
theorem zeros_any (n:Nat) (w:World) (hn:n≤12) :
  Calls Tryz.prog 59 #[.int .i64 0,.int .i64 n] w (fun e w'=>∃ g,e=.returned (.slice (some ⟨g,0,none⟩) n n)∧w.heap.size≤g∧Cells w' g 2 ((List.replicate n (0:Int)).map (Value.int .i64))∧Below w.heap.size w w'):=by
 have hmk:=run_make_row' (P:=Tryz.prog) 28 2 (.int .i64 0) 8 Tryz.underlying28 Tryz.infoI rfl .i64 .i64 n (by omega) (by omega)
 rw [madeCells_one] at hmk
 obtain ⟨W1,hW1⟩:∃ W1,W1=w.alloc (.cells (Array.replicate n (Value.int .i64 0)) 2):=⟨_,rfl⟩
 have hc1:Cells W1 w.heap.size 2 ((List.replicate n (0:Int)).map (Value.int .i64)):=by
  rw [hW1,List.map_replicate]
  have:=Cells.new w 2 (List.replicate n (Value.int .i64 0))
  simpa using this
 have hg1:Below w.heap.size w W1:=by rw [hW1];go_grown
 have HW1:=hid hW1
 have HG1:=hid hg1
 have HC1:=hid hc1
 clear hW1 hc1 hg1
 go_enter Tryz.func59,Tryz.ntmps59
 go_upto_region 2 with fail
 rw [←HW1.out]
 clear hmk
 by_cases h0:0<n
 ·have h1:(0:Int)<(n:Int):=by omega
  obtain ⟨m,rfl⟩:∃ m,n=m+1:=⟨n - 1,by omega⟩
  have x0:W1.cell? ⟨w.heap.size,0,none⟩=some (.int .i64 0):=by rw [HC1.out.cell];rfl
  have f0:=HC1.out.frozen 0
  have h2:=HC1.out.set_ 0 (.int .i64 0)
  have e2:((List.replicate (m+1) (0:Int)).map (Value.int .i64)).set 0 (.int .i64 0)=(List.replicate (m+1) (0:Int)).map (Value.int .i64):=by
   rw [List.replicate_succ];rfl
  rw [e2] at h2
  have H2:=hid h2
  clear h2 e2
  go_wp2
  go_ret
  exact ⟨w.heap.size,rfl,Nat.le_refl _,H2.out,HG1.out.setCell (p:=⟨w.heap.size,0,none⟩) (Nat.le_refl _) _⟩
 ·have h1:¬ (0:Int)<(n:Int):=by omega
  go_wp2
  go_ret
  exact ⟨w.heap.size,rfl,Nat.le_refl _,by have h:=HC1.out;simpa using h,HG1.out⟩
def NextR (g:Nat) (zs:List Int) (w:World) (e:Ending) (w':World):Prop:=∃ (bb:Bool) (zs':List Int),e=.returned (.bool bb)∧Cells w' g 2 (zs'.map (Value.int .i64))∧Only (fun q=>q=g) w w' ∧
 (bb=true→∃ (a:List Int) (z:Int) (k:Nat),zs=a++z :: List.replicate k 12∧z<12∧zs'=a++(z+1) :: List.replicate k 0)∧(bb=false→zs=List.replicate zs.length 12)
theorem nextS_any (g:Nat) (zs:List Int) (cap:Nat) (w:World) (hC:Cells w g 2 (zs.map (Value.int .i64))) (hg:grid12 zs) (hl:zs.length≤12) :
  Calls Tryz.prog 61 #[.slice (some ⟨g,0,none⟩) zs.length cap] w (NextR g zs w):=by
 have HC0:=hid hC
 have HG:=hid hg
 obtain ⟨n,hn⟩:∃ n,n=zs.length:=⟨_,rfl⟩
 have HN:=hid hn
 rw [←hn] at hl ⊢
 clear hC hg hn
 go_enter Tryz.func61,Tryz.ntmps61
 go_wp2_with fail
 go_loopw [3] (fun i wr=>∃ (a:List Int) (k:Nat),i=.int .i64 ((a.length:Int) - 1)∧Hid (zs=a++List.replicate k 12)∧Hid (Cells wr g 2 ((a++List.replicate k 0).map (Value.int .i64)))∧Hid (Only (fun q=>q=g) w wr)) (fun i _=>(intOf i+1).toNat)
 case atStart=>exact ⟨zs,0,by rw [←HN.out],by show _=_;simp,by show Cells _ _ _ _;have h:=HC0.out;simpa using h,Only.refl _ _⟩
 case round=>
  obtain ⟨a,k,rfl,HZ,HC,HO⟩:=hrel
  have hal:a.length≤n:=by rw [HN.out,HZ.out];simp
  rcases Nat.eq_zero_or_pos a.length with e0 | e0
  ·have h1:¬ (0:Int)≤(a.length:Int) - 1:=by omega
   have ha:a=[]:=List.length_eq_zero_iff.1 e0
   have HA:=hid ha
   have HE:Hid (zs=List.replicate n 12):=by
    have h:=HZ.out
    rw [ha,List.nil_append] at h
    have h2:=congrArg List.length h
    rw [List.length_replicate,←HN.out] at h2
    show _=_
    rw [h,h2]
   clear ha e0
   go_wp2
   go_ret
   exact ⟨false,_,rfl,HC.out,HO.out,fun h=>absurd h (by simp),fun _=>by rw [←HN.out];exact HE.out⟩
  ·obtain ⟨a',z,hla,hae⟩:=snocZ (n:=a.length - 1) (l:=a) (by omega)
   have hxz:(a.length:Int) - 1=(a'.length:Int):=by omega
   have HE2:Hid (a++List.replicate k 0=a'++z :: List.replicate k 0):=by show _=_;rw [hae];simp
   have HE3:Hid (zs=a'++z :: List.replicate k 12):=by show _=_;rw [HZ.out,hae];simp
   have hz12:0≤z∧z≤12:=HG.out z (by rw [HE3.out];simp)
   have hC2:Cells wr g 2 ((a'++z :: List.replicate k 0).map (Value.int .i64)):=by have h:=HC.out;rw [HE2.out] at h;exact h
   have hx1:=hC2.getI
   have hx2:=hC2.frozen a'.length
   have hz1:=hz12.1
   have hz2:=hz12.2
   have hal2:a'.length<n:=by omega
   have HLA:=hid hla
   rw [hxz]
   clear hae hla hz12 HZ HC
   have HC2:=hid hC2
   clear hC2
   by_cases hz:z<12
   ·have HNX:=hid (HC2.out.setI (z+1))
    have HNO:=hid (onlySet HO.out a'.length (.int .i64 (z+1)))
    go_wp2
    go_ret
    exact ⟨true,_,rfl,HNX.out,HNO.out,fun _=>⟨a',z,k,HE3.out,hz,rfl⟩,fun h=>absurd h (by simp)⟩
   ·obtain rfl:z=12:=by omega
    have HNX:=hid (HC2.out.setI 0)
    have HNO:=hid (onlySet HO.out a'.length (.int .i64 0))
    go_wp2
    go_roundw
    case rel=>exact ⟨a',k+1,rfl,HE3.out,HNX.out,HNO.out⟩
    case measure=>simp [intOf]
end
section
open Go.RowKit Plain
theorem retChkA {w w1:World} {b:Bool} {c:Int} {A:Option Addr} {cp:Nat} (hb:Below w.heap.size w w1):RetbIi b [] c w (.returned (.tuple #[.bool b,.slice A 0 cp,.int .i64 c])) w1:=⟨hb,A,cp,rfl,(IntsM.nil _ _ _).reg hb.size⟩
theorem checkS (v:Int) (l r:Nd) (KL KR:Option Addr) (cl cr B:Nat) (w:World) (hL:ExSl w B l.ks KL) (hcl:l.ks.len≤cl) (hml:cl≤maxLen) (hR:ExSl w B r.ks KR) (hcr:r.ks.len≤cr) (hmr:cr≤maxLen) (hB:B≤w.heap.size) (hsl:l.ks.size≤1048576) (hsr:r.ks.size≤1048576) :
  Calls Tryz.prog 11 #[ruV v l KL cl r KR cr] w (RetbIi (chkV v l r).1.1 (chkV v l r).1.2 (chkV v l r).2 w):=by
 obtain ⟨W0,hW0⟩:∃ W0,W0=w.alloc (.cells #[.int .i64 v,.int .i64 l.k,.int .i64 l.n,.int .i64 l.p,.int .i64 l.c,.slice KL l.ks.len cl,.int .i64 r.k,.int .i64 r.n,.int .i64 r.p,.int .i64 r.c,.slice KR r.ks.len cr] 35):=⟨_,rfl⟩
 have hb0:Below w.heap.size w W0:=by rw [hW0];go_grown
 have hs0:W0.heap.size=w.heap.size+1:=by rw [hW0];simp
 have hq:Cells W0 w.heap.size 35 [.int .i64 v,.int .i64 l.k,.int .i64 l.n,.int .i64 l.p,.int .i64 l.c,.slice KL l.ks.len cl,.int .i64 r.k,.int .i64 r.n,.int .i64 r.p,.int .i64 r.c,.slice KR r.ks.len cr]:=by rw [hW0];exact Cells.new w 35 _
 have hRA:RuleAt W0 (w.heap.size+1) v l r w.heap.size 0:=by
  have hb1:Below B w W0:=hb0.mono hB
  obtain ⟨b1,o1,e1,x1⟩:=hL.below hb1
  obtain ⟨b2,o2,e2,x2⟩:=hR.below hb1
  refine ⟨by rw [hq.cell];rfl,⟨by omega, ?_, ?_, ?_, ?_,KL,cl,b1,o1, ?_,hcl,hml,e1,x1.mono (by omega)⟩,⟨by omega, ?_, ?_, ?_, ?_,KR,cr,b2,o2, ?_,hcr,hmr,e2,x2.mono (by omega)⟩⟩<;>rw [hq.cell]<;>rfl
 have HRK:=hid (ruleS_any v l r w.heap.size 0 (w.heap.size+1) W0 hRA (by omega) hsl hsr)
 have HRA:=hid hRA
 have HB0:=hid hb0
 have HS0:=hid hs0
 have HW0:=hid hW0
 have HX:Hid (∀ wx,Below W0.heap.size W0 wx→wx.cell? ⟨w.heap.size,0,none⟩=some (.int .i64 v)):=fun wx hb=>(hRA.below (hb.mono (by omega))).vars
 obtain ⟨cv,hcv⟩:∃ x,x=chkV v l r:=⟨_,rfl⟩
 rw [←hcv]
 have HCV:=hid hcv
 clear hcv hL hR hb0 hs0 hq hRA hW0 hsl hsr
 go_enter Tryz.func11,Tryz.ntmps11
 go_upto_region 1 with fail
 rw [←HW0.out]
 go_wp2_with fail
 refine HRK.out.mono ?_;rintro e w1 ⟨rfl,hb1⟩
 clear HRK
 by_cases hok:ruleOk v l r=true
 case neg=>
  have hok':ruleOk v l r=false:=by simpa using hok
  have HV:=hid (HCV.out.trans (chk_bad hok'))
  have HBF:=hid (HB0.out.trans (hb1.mono HB0.out.size))
  rw [hok']
  clear hok hok' hb1
  go_wp2
  refine bodyPost_ret (by simp [results,Tryz.results11,go_sem];rfl) rfl ?_
  rw [HV.out]
  exact retChkA (HBF.out.alloc HBF.out.size _)
 case pos=>
  obtain ⟨v0,v3,hsl,hsr⟩:=ruleOk_parts hok
  have HGI:=hid (gapS v l r w.heap.size 0 (w.heap.size+1) w1 (HRA.out.below (hb1.mono (by have:=HS0.out;omega))) (by have:=HS0.out;have:=hb1.size;omega) v0 v3 hsl hsr)
  have HOK:=hid hok
  rw [hok]
  clear hok hsl hsr
  have HB1:=hid hb1
  clear hb1
  obtain ⟨gv,hgv⟩:∃ x,x=gapV v l r:=⟨_,rfl⟩
  rw [←hgv] at HGI
  obtain ⟨⟨gu,ts⟩,gc⟩:=gv
  have HGV:=hid hgv
  clear hgv
  go_wp2_with fail
  refine HGI.out.mono ?_;rintro e w2 ⟨⟨hb2,A2,c2,rfl,hRT⟩,hgok⟩
  clear HGI
  have HBF:Hid (Below w.heap.size w w2):=HB0.out.trans ((HB1.out.mono HB0.out.size).trans (hb2.mono (Nat.le_trans HB0.out.size HB1.out.size)))
  have hbx2:=(HB1.out.trans (hb2.mono HB1.out.size))
  by_cases hgc:gc=0
  case neg=>
   have HV:=hid (HCV.out.trans (chk_err HOK.out (by rw [←HGV.out];exact hgc)))
   rw [←HGV.out] at HV
   have hgb:(gc != 0)=true:=by simpa using hgc
   clear hgc hb2 hRT hgok hbx2
   go_wp2
   refine bodyPost_ret (by simp [results,Tryz.results11,go_sem];rfl) rfl ?_
   rw [HV.out]
   exact retChkA ((HBF.out.alloc HBF.out.size _).alloc (by simp;have:=HBF.out.size;omega) _)
  case pos=>
   subst hgc
   obtain ⟨hu,hpg,hcan⟩:=hgok rfl
   simp only at hu hpg hcan
   subst hu
   obtain ⟨n,rfl⟩:∃ n:Nat,gu=n:=⟨gu.toNat,by omega⟩
   have HPG:=hid hpg
   have HCAN:=hid hcan
   have hl1000:=hpg.1.2.2
   clear hpg hcan hgok
   by_cases hne:ts=[]
   ·have HV:=hid (HCV.out.trans (chk_yes HOK.out (by rw [←HGV.out]) (by rw [←HGV.out];exact hne)))
    have hlz:(((ts.length:Nat):Int)==0)=true:=by rw [hne];rfl
    clear hne hb2 hRT hbx2
    go_wp2
    refine bodyPost_ret (by simp [results,Tryz.results11,go_sem];rfl) rfl ?_
    rw [HV.out]
    exact retChkA ((HBF.out.alloc HBF.out.size _).alloc (by simp;have:=HBF.out.size;omega) _)
   ·have hlz:(((ts.length:Nat):Int)==0)=false:=by
     cases ts with
     | nil=>exact absurd rfl hne
     | cons t r=>simp;omega
    have x0:(w2.alloc (.cells #[.int .i64 (n:Int),.slice A2 ts.length c2] 86)).cell? ⟨w.heap.size,0,none⟩=some (.int .i64 (n:Int)):=keepC (HX.out w2 hbx2) (by go_grown)
    have HNE:=hid hne
    have HT2:=hid (show TmsAt w2 A2 ts from regTms hRT (by show totT ts≤9223372036854775807;have:=(nf_bd (fun t ht=>by have:=(termOk_parts (HPG.out.2 t ht)).1;omega) (by omega:n≤12) hl1000 (by omega)).2;rw [nfT_self HCAN.out] at this;omega))
    obtain ⟨W3,hW3⟩:∃ W3,W3=w2.alloc (.cells #[.int .i64 (n:Int),.slice A2 ts.length c2] 86):=⟨_,rfl⟩
    have hg3:Below w2.heap.size w2 W3:=by rw [hW3];go_grown
    have HP3:Hid (Cells W3 w2.heap.size 86 [.int .i64 (n:Int),.slice A2 ts.length c2]):=by
     show Cells _ _ _ _
     rw [hW3];exact Cells.new w2 86 _
    have HW3:=hid hW3
    have HT3:=hid (HT2.out.below hg3)
    have HBF3:=hid (HBF.out.trans (hg3.mono HBF.out.size))
    have HZ:=hid (zeros_any n W3 (by omega))
    clear hW3 hg3 HT2 hRT hb2 hbx2 hne
    go_upto_region 8 with fail
    rw [←HW3.out]
    rw [←HW3.out] at x0
    go_wp2_with fail
    refine HZ.out.mono ?_;rintro e W4 ⟨g,rfl,hg,hC4,hb4⟩
    have HP4:=hid (HP3.out.next hb4)
    have HR4:=hid hC4
    have hgx:w2.heap.size<g:=Nat.lt_of_lt_of_le HP3.out.lt hg
    have HTO:Hid (∀ wr,Only (fun q=>q=g) W4 wr→TmsAt wr A2 ts):=fun wr ho=>HT3.out.below (hb4.trans (ho.below hb4.size (fun q e=>by omega)))
    have HBF4:=hid (HBF3.out.trans (hb4.mono HBF3.out.size))
    have hw22:w.heap.size≤w2.heap.size:=HBF.out.size
    clear x0 HZ hC4 hb4 hg HP3 HT3 HW3
    generalize w2.heap.size=bx at *
    have HLG:Hid (∀ l,NoneBef n ts l→l.length=n):=fun l h=>(gridOk_mem.1 h.1).1
    have hbw4:g<W4.heap.size:=HR4.out.lt
    go_wp2_with fail
    go_loopw [8] (fun b8 wr=>∃ l:List Int,b8=.bool true∧Hid (Cells wr g 2 (l.map (Value.int .i64)))∧Hid (NoneBef n ts l)∧Hid (Only (fun q=>q=g) W4 wr)) (fun _ wr=>((13:Int) ^ n - num13 (ptOf wr g n)).toNat)
    case atStart=>exact ⟨List.replicate n 0,rfl,HR4.out,NoneBef.zero n ts,Only.refl _ _⟩
    case round=>
     obtain ⟨l0,rfl,HC,HN,HO⟩:=hrel
     have hln:=HLG.out l0 HN.out
     have hO2:=HO.out
     have hp4:=only_cells HP4.out hO2 (by omega)
     have q1:wr.cell? ⟨bx,0+1,none⟩=some (.slice A2 ts.length c2):=by rw [hp4.cell];rfl
     have hTw:TmsAt wr A2 ts:=HTO.out wr hO2
     have HVL:=hid (valueS_g bx 0 n A2 c2 ts (some ⟨g,0,none⟩) n l0 wr q1 hTw HPG.out (HC.out.intsT (Nat.le_refl _)).ints (by omega))
     rw [hln] at HVL
     obtain ⟨pz,hpz⟩:∃ z,z=pvL ts l0 ts.length:=⟨_,rfl⟩
     rw [←hpz] at HVL
     have HPZ:=hid hpz
     clear hpz hp4 hTw hO2 q1
     go_wp2_with fail
     refine HVL.out.mono ?_;rintro e w5 ⟨rfl,hb5⟩
     have HC5:=hid (HC.out.next hb5)
     have HO5:=hid (HO.out.trans (Only.of_below hb5))
     have HPT:Hid (ptOf wr g n=l0):=by show _=_;rw [←hln];exact ptOf_eq HC.out
     clear hb5 HVL HC HO
     by_cases hz0:pz=0
     ·subst hz0
      have HNX:=hid (nextS_any g l0 n w5 HC5.out (gridOk_mem.1 HN.out.1).2 (by omega))
      rw [hln] at HNX
      go_wp2_with fail
      refine HNX.out.mono ?_;rintro e w6 ⟨bb,zs',rfl,hC6,hO6,hyes,hno⟩
      cases bb with
      | false=>
       exfalso
       have h1:=hno rfl
       rw [hln] at h1
       have h2:=HN.out
       have h3:=HPZ.out
       rw [h1] at h2 h3
       exact h2.notAll h3.symm (by have h4:=grid_g HPG.out HCAN.out HNE.out;rw [Int.toNat_natCast] at h4;exact h4)
      | true=>
       obtain ⟨a,z,k,e1,e2,rfl⟩:=hyes rfl
       have hN6:=HN.out
       have hP6:=HPZ.out
       rw [e1] at hN6 hP6
       have HNN:=hid (hN6.next e2 hP6.symm)
       have HC6:=hid hC6
       have HO6:=hid (HO5.out.trans hO6)
       have HLT:Hid (((13:Int) ^ n - num13 (ptOf w6 g n)).toNat<((13:Int) ^ n - num13 (ptOf wr g n)).toNat):=by
        refine pt_less (by rw [HPT.out,e1]) ?_ hN6.1
        have h:=ptOf_eq HC6.out
        rw [HLG.out _ HNN.out] at h
        exact h
       clear e1 e2 hN6 hP6 hC6 hO6 hyes hno
       go_wp2
       go_roundw
       case rel=>exact ⟨_,rfl,HC6.out,HNN.out,HO6.out⟩
       case measure=>exact HLT.out
     ·have hzb:(pz==0)=false:=by simpa using hz0
      have HV:=hid (HCV.out.trans (chk_pt HOK.out (by rw [←HGV.out]) (by rw [←HGV.out];exact HNE.out) (p:=l0) (by rw [←HGV.out,Int.toNat_natCast];exact ⟨HN.out,by rw [←HPZ.out];exact hz0⟩)))
      have HRI:Hid (Below w.heap.size w w5∧RI w5 w.heap.size w5.heap.size (some ⟨g,0,none⟩) l0):=by
       have h1:Below w.heap.size w w5:=HBF4.out.trans (HO5.out.below (by have:=HBF4.out.size;omega) (fun q e=>by omega))
       exact ⟨h1,(HC5.out.intsT (B:=w.heap.size) (by omega)).m.reg h1.size⟩
      clear hz0
      go_wp2
      refine bodyPost_ret (v:=.tuple #[.bool false,.slice (some ⟨g,0,none⟩) n n,.int .i64 0]) (by simp [results,Tryz.results11,go_sem]) rfl ?_
      rw [HV.out]
      exact ⟨HRI.out.1,_,n,by rw [hln],HRI.out.2⟩
end
section
open Go.RowKit Plain
theorem Tryz.cellsRu:Tryz.prog.cellsOf 26=11:=by kernel_rfl
theorem open_expr {H:Type} {enc:TypeId×Value→H} {w:World} {fuel:Nat} {cs:List Value} {x:DataW H×List MemPlace} (h:DataW.trod enc Tryz.prog w 0 (fun _=>true) true fuel 24 cs=some x) :
  ∃ (y:Nd) (A:Option Addr) (cap:Nat),cs=[.int .i64 y.k,.int .i64 y.n,.int .i64 y.p,.int .i64 y.c,.slice A y.ks.len cap]∧y.ks.len≤cap∧cap≤maxLen∧ExSl w w.heap.size y.ks A:=by
 obtain ⟨ys,n',_,_,hcl,hlen,hf⟩:=DataW.trod_struct Tryz.underlying24 h
 rw [Tryz.cellsLE] at hcl
 match cs,hcl,ys,hlen with
 | [c0,c1,c2,c3,c4],_,[y0,y1,y2,y3,y4],_=>
  have h0:DataW.trod enc Tryz.prog w 0 (fun _=>true) true n' 2 (([c0,c1,c2,c3,c4].drop 0).take (Tryz.prog.cellsOf 2))=some y0:=hf 0 _ rfl
  have h1:DataW.trod enc Tryz.prog w 0 (fun _=>true) true n' 2 (([c0,c1,c2,c3,c4].drop 1).take (Tryz.prog.cellsOf 2))=some y1:=hf 1 _ rfl
  have h2:DataW.trod enc Tryz.prog w 0 (fun _=>true) true n' 2 (([c0,c1,c2,c3,c4].drop 2).take (Tryz.prog.cellsOf 2))=some y2:=hf 2 _ rfl
  have h3:DataW.trod enc Tryz.prog w 0 (fun _=>true) true n' 2 (([c0,c1,c2,c3,c4].drop 3).take (Tryz.prog.cellsOf 2))=some y3:=hf 3 _ rfl
  have h4:DataW.trod enc Tryz.prog w 0 (fun _=>true) true n' 22 (([c0,c1,c2,c3,c4].drop 4).take (Tryz.prog.cellsOf 22))=some y4:=hf 4 _ rfl
  rw [Tryz.cellsI] at h0 h1 h2 h3
  rw [Tryz.cellsES] at h4
  obtain ⟨n0,e0,_⟩:=DataW.trod_int Tryz.underlying2 (x:=y0) h0
  obtain ⟨n1,e1,_⟩:=DataW.trod_int Tryz.underlying2 (x:=y1) h1
  obtain ⟨n2,e2,_⟩:=DataW.trod_int Tryz.underlying2 (x:=y2) h2
  obtain ⟨n3,e3,_⟩:=DataW.trod_int Tryz.underlying2 (x:=y3) h3
  obtain ⟨A,cap,es,e4,hcap,hmx,hsl⟩:=open_exprs _ _ _ h4
  simp at e0 e1 e2 e3 e4
  subst e0 e1 e2 e3 e4
  exact ⟨⟨n0,n1,n2,n3,es⟩,A,cap,rfl,hcap,hmx,hsl⟩
theorem open_rule {H:Type} {enc:TypeId×Value→H} {w:World} {fuel:Nat} {cs:List Value} {x:DataW H×List MemPlace} (h:DataW.trod enc Tryz.prog w 0 (fun _=>true) true fuel 26 cs=some x) :
  ∃ (v:Int) (l r:Nd) (KL KR:Option Addr) (cl cr:Nat),cs=[.int .i64 v,.int .i64 l.k,.int .i64 l.n,.int .i64 l.p,.int .i64 l.c,.slice KL l.ks.len cl,.int .i64 r.k,.int .i64 r.n,.int .i64 r.p,.int .i64 r.c,.slice KR r.ks.len cr] ∧
   ExSl w w.heap.size l.ks KL∧l.ks.len≤cl∧cl≤maxLen∧ExSl w w.heap.size r.ks KR∧r.ks.len≤cr∧cr≤maxLen:=by
 obtain ⟨ys,n',_,_,hcl,hlen,hf⟩:=DataW.trod_struct Tryz.underlying26 h
 rw [Tryz.cellsRu] at hcl
 match cs,hcl,ys,hlen with
 | [c0,c1,c2,c3,c4,c5,c6,c7,c8,c9,c10],_,[y0,y1,y2],_=>
  have h0:DataW.trod enc Tryz.prog w 0 (fun _=>true) true n' 2 (([c0,c1,c2,c3,c4,c5,c6,c7,c8,c9,c10].drop 0).take (Tryz.prog.cellsOf 2))=some y0:=hf 0 _ rfl
  have h1:DataW.trod enc Tryz.prog w 0 (fun _=>true) true n' 24 (([c0,c1,c2,c3,c4,c5,c6,c7,c8,c9,c10].drop 1).take (Tryz.prog.cellsOf 24))=some y1:=hf 1 _ rfl
  have h2:DataW.trod enc Tryz.prog w 0 (fun _=>true) true n' 24 (([c0,c1,c2,c3,c4,c5,c6,c7,c8,c9,c10].drop 6).take (Tryz.prog.cellsOf 24))=some y2:=hf 2 _ rfl
  rw [Tryz.cellsI] at h0
  rw [Tryz.cellsLE] at h1 h2
  obtain ⟨n0,e0,_⟩:=DataW.trod_int Tryz.underlying2 (x:=y0) h0
  obtain ⟨l,KL,cl,e1,a1,a2,a3⟩:=open_expr h1
  obtain ⟨r,KR,cr,e2,b1,b2,b3⟩:=open_expr h2
  simp at e0 e1 e2
  obtain ⟨rfl,rfl,rfl,rfl,rfl⟩:=e1
  obtain ⟨rfl,rfl,rfl,rfl,rfl⟩:=e2
  subst e0
  exact ⟨n0,l,r,KL,KR,cl,cr,rfl,a3,a1,a2,b3,b1,b2⟩
end
section
open Go.RowKit Plain
structure RuleIn (w:World) (l:Nd) (KL:Option Addr) (cl:Nat) (r:Nd) (KR:Option Addr) (cr:Nat):Prop where
 left:ExSl w w.heap.size l.ks KL
 right:ExSl w w.heap.size r.ks KR
 ll:l.ks.len≤cl
 lm:cl≤maxLen
 rl:r.ks.len≤cr
 rm:cr≤maxLen
 sz:l.ks.size+r.ks.size≤1048576
theorem checkI' {KL KR:Option Addr} {cl cr:Nat} (v:Int) (l r:Nd) (w:World) (h:RuleIn w l KL cl r KR cr) :
  Calls Tryz.prog 13 #[ruV v l KL cl r KR cr] w (RetbIi (chkV v l r).1.1 (chkV v l r).1.2 (chkV v l r).2 w):=
 checkI v l r KL KR cl cr w.heap.size w h.left h.ll h.lm h.right h.rl h.rm (Nat.le_refl _) (by have:=h.sz;omega) (by have:=h.sz;omega)
theorem checkS' {KL KR:Option Addr} {cl cr:Nat} (v:Int) (l r:Nd) (w:World) (h:RuleIn w l KL cl r KR cr) :
  Calls Tryz.prog 11 #[ruV v l KL cl r KR cr] w (RetbIi (chkV v l r).1.1 (chkV v l r).1.2 (chkV v l r).2 w):=
 checkS v l r KL KR cl cr w.heap.size w h.left h.ll h.lm h.right h.rl h.rm (Nat.le_refl _) (by have:=h.sz;omega) (by have:=h.sz;omega)
theorem chkV_short (v:Int) (l r:Nd):(chkV v l r).1.2.length≤4194304:=by
 unfold chkV
 split
 ·rename_i hok
  obtain ⟨v0,v3,_,_⟩:=ruleOk_parts hok
  split
  ·split
   ·exact Nat.zero_le _
   ·show (firstPt _ _).length≤_
    unfold firstPt
    split
    ·rename_i hx
     have h1:=(gridOk_mem.1 (Classical.choose_spec hx).1.1).1
     rw [h1];omega
    ·exact Nat.zero_le _
  ·exact Nat.zero_le _
 ·exact Nat.zero_le _
theorem regRule {w:World} {lo hi:Nat} {l r:Nd} {g1 g2:Nat} (h:Reg w lo hi (RulR lo hi l r g1 g2)) (hz:l.ks.size+r.ks.size≤1048576):RuleIn w l (some ⟨g1,0,none⟩) l.ks.len r (some ⟨g2,0,none⟩) r.ks.len:=by
 have h1:=Es.len_le_size l.ks
 have h2:=Es.len_le_size r.ks
 exact ⟨h.now.left h.size,h.now.right h.size,Nat.le_refl _,by unfold maxLen;omega,Nat.le_refl _,by unfold maxLen;omega,hz⟩
theorem toRuleR (v:Int) (l r:Nd) (KL KR:Option Addr) (cl cr B:Nat) (w:World) (h:ExSl w B l.ks KL∧ExSl w B r.ks KR) (hB:B≤w.heap.size) (hz:l.ks.size+r.ks.size≤1048576) :
  Calls Tryz.prog 12 #[ruV v l KL cl r KR cr] w fun e w'=>∃ g1 g2 lo,w.heap.size≤lo∧e=.returned (ruV v l (some ⟨g1,0,none⟩) l.ks.len r (some ⟨g2,0,none⟩) r.ks.len)∧Reg w' lo w'.heap.size (RulR lo w'.heap.size l r g1 g2)∧Below w.heap.size w w':=
 (toRule_any v l r KL KR cl cr B w h.1 h.2 hB (by omega) (by omega)).mono fun e w' ⟨g1,g2,h1,h2,h3⟩=>
  ⟨g1,g2,w.heap.size+3,by omega,h1,⟨by obtain ⟨mid,a1,a2,_,a4,a5,_⟩:=h2;omega,Nat.le_refl _,h2,fun w1 w2 h hb=>h.keep hb⟩,h3⟩
theorem eqRuleR (v:Int) (l r:Nd) {g1 g2 g3 g4 lo hi lo' hi' cl cr cl' cr':Nat} {w:World} (h:Reg w lo hi (RulR lo hi l r g1 g2)) (h':Reg w lo' hi' (RulR lo' hi' l r g3 g4)) (hz:l.ks.size+r.ks.size≤1048576) :
  Calls Tryz.prog 15 #[ruV v l (some ⟨g1,0,none⟩) cl r (some ⟨g2,0,none⟩) cr,ruV v l (some ⟨g3,0,none⟩) cl' r (some ⟨g4,0,none⟩) cr'] w fun e w'=>e=.returned (.bool true)∧Below w.heap.size w w':=
 eqRule_any v l r _ _ _ _ cl cr cl' cr' w.heap.size w (h.now.left h.size) (h.now.right h.size) (h'.now.left h'.size) (h'.now.right h'.size) (Nat.le_refl _) (by omega) (by omega)
theorem markExprM {b hi:Nat} {ks:Es} (k n p c:Int) (cap:Nat) {y:Int} {w:World} (h:ExsM w ks (b+1) hi b 0) (hs:hi≤w.heap.size) (hb:b<w.heap.size) (hz:ks.size≤1048576) (y0:0≤y) (y1:y≤1000000000) :
  Calls Tryz.prog 29 #[exV k n p c (some ⟨b,0,none⟩) ks.len cap,.int .i64 y] w fun e w'=>e=.returned (.int .i64 (y+4*ks.size))∧Only (fun q=>q=b∨(b+1≤q∧q<hi)) w w':=by
 have hg:Below w.heap.size w (w.alloc (.cells #[.int .i64 k,.int .i64 n,.int .i64 p,.int .i64 c,.slice (some ⟨b,0,none⟩) ks.len cap] 33)):=by go_grown
 have h2:=h.keep (SameCells.of_block (hg.block b hb) _ _) (fun q _ q2=>hg.block q (by omega))
 have HM:=hid (markExprS_any (ks.size+1) ks (by omega) (some ⟨b,0,none⟩) cap b (b+1) hi y _ (fun _=>rfl) h2 (by omega) (Nat.le_trans hs hg.size) hz y0 (by omega))
 have HO:Hid (Only (fun q=>q=b∨(b+1≤q∧q<hi)) w (w.alloc (.cells #[.int .i64 k,.int .i64 n,.int .i64 p,.int .i64 c,.slice (some ⟨b,0,none⟩) ks.len cap] 33))):=Only.of_below hg
 clear h h2 hg
 go_enter Tryz.func29,Tryz.ntmps29
 go_wp2_with fail
 refine HM.out.mono ?_;rintro e w1 ⟨rfl,hO1⟩
 have HO1:=hid (HO.out.trans (hO1.sub (T:=fun q=>q=b∨(b+1≤q∧q<hi)) fun q e=>e.elim (fun e=>.inl e.2) .inr))
 clear hO1
 go_wp2
 go_ret
 exact ⟨rfl,HO1.out⟩
theorem markRuleR (v:Int) (l r:Nd) {g1 g2 lo hi cl cr:Nat} {y:Int} {w:World} (h:Reg w lo hi (RulR lo hi l r g1 g2)) (hz:l.ks.size+r.ks.size≤1048576) (y0:0≤y) (y1:y≤1000) :
  Calls Tryz.prog 16 #[ruV v l (some ⟨g1,0,none⟩) cl r (some ⟨g2,0,none⟩) cr,.int .i64 y] w fun e w'=>∃ k',e=.returned (.int .i64 k')∧y≤k'∧k'≤y+4194304∧Only (fun q=>lo≤q∧q<hi) w w':=by
 obtain ⟨mid,a1,a2,a3,a4,a5,a6⟩:=h.now
 have hs:=h.size
 obtain ⟨W0,hW0⟩:∃ W0,W0=w.alloc (.cells #[.int .i64 v,.int .i64 l.k,.int .i64 l.n,.int .i64 l.p,.int .i64 l.c,.slice (some ⟨g1,0,none⟩) l.ks.len cl,.int .i64 r.k,.int .i64 r.n,.int .i64 r.p,.int .i64 r.c,.slice (some ⟨g2,0,none⟩) r.ks.len cr] 35):=⟨_,rfl⟩
 have hg:Below w.heap.size w W0:=by rw [hW0];go_grown
 have hq:Cells W0 w.heap.size 35 [.int .i64 v,.int .i64 l.k,.int .i64 l.n,.int .i64 l.p,.int .i64 l.c,.slice (some ⟨g1,0,none⟩) l.ks.len cl,.int .i64 r.k,.int .i64 r.n,.int .i64 r.p,.int .i64 r.c,.slice (some ⟨g2,0,none⟩) r.ks.len cr]:=by rw [hW0];exact Cells.new w 35 _
 have h3:ExsM W0 l.ks (g1+1) mid g1 0:=a3.keep (SameCells.of_block (hg.block g1 (by omega)) _ _) (fun q _ q2=>hg.block q (by omega))
 have h6:ExsM W0 r.ks (g2+1) hi g2 0:=a6.keep (SameCells.of_block (hg.block g2 (by omega)) _ _) (fun q _ q2=>hg.block q (by omega))
 have hsz:=hg.size
 have HM1:=hid (markExprM l.k l.n l.p l.c cl (y:=y) h3 (by omega) (by omega) (by omega) y0 (by omega))
 have HM2:Hid (∀ w1,Only (fun q=>q=g1∨(g1+1≤q∧q<mid)) W0 w1→Calls Tryz.prog 29 #[exV r.k r.n r.p r.c (some ⟨g2,0,none⟩) r.ks.len cr,.int .i64 (y+4*l.ks.size)] w1 fun e w'=>e=.returned (.int .i64 (y+4*l.ks.size+4*r.ks.size))∧Only (fun q=>q=g2∨(g2+1≤q∧q<hi)) w1 w'):=fun w1 ho=>
  markExprM r.k r.n r.p r.c cr (h6.keep (SameCells.of_block (ho.block g2 (by omega) (fun e=>by omega)) _ _) (fun q q1 q2=>ho.block q (by omega) (fun e=>by omega))) (by have:=ho.size;omega) (by have:=ho.size;omega) (by omega) (by omega) (by omega)
 have HX:Hid (∀ w1,Only (fun q=>q=g1∨(g1+1≤q∧q<mid)) W0 w1→w1.cell? ⟨w.heap.size,6,none⟩=some (.int .i64 r.k)∧w1.cell? ⟨w.heap.size,7,none⟩=some (.int .i64 r.n)∧w1.cell? ⟨w.heap.size,8,none⟩=some (.int .i64 r.p)∧w1.cell? ⟨w.heap.size,9,none⟩=some (.int .i64 r.c)∧w1.cell? ⟨w.heap.size,10,none⟩=some (.slice (some ⟨g2,0,none⟩) r.ks.len cr)):=fun w1 ho=>by
  have h:=ho.block w.heap.size hq.lt (fun e=>by omega)
  have hq1:Cells w1 w.heap.size _ _:=h.trans hq
  exact ⟨(hq1.cell 6).trans rfl,(hq1.cell 7).trans rfl,(hq1.cell 8).trans rfl,(hq1.cell 9).trans rfl,(hq1.cell 10).trans rfl⟩
 have HO0:Hid (Only (fun q=>lo≤q∧q<hi) w W0):=Only.of_below hg
 have hk:(0:Int)≤y+4*l.ks.size+4*r.ks.size∧y+4*l.ks.size+4*r.ks.size≤y+4194304:=by omega
 have HW0:=hid hW0
 have x1:W0.cell? ⟨w.heap.size,1,none⟩=some (.int .i64 l.k):=(hq.cell 1).trans rfl
 have x2:W0.cell? ⟨w.heap.size,2,none⟩=some (.int .i64 l.n):=(hq.cell 2).trans rfl
 have x3:W0.cell? ⟨w.heap.size,3,none⟩=some (.int .i64 l.p):=(hq.cell 3).trans rfl
 have x4:W0.cell? ⟨w.heap.size,4,none⟩=some (.int .i64 l.c):=(hq.cell 4).trans rfl
 have x5:W0.cell? ⟨w.heap.size,5,none⟩=some (.slice (some ⟨g1,0,none⟩) l.ks.len cl):=(hq.cell 5).trans rfl
 have HHK:=hid hk
 have HY:Hid (y≤y+4*l.ks.size+4*r.ks.size):=by show _≤_;omega
 have HSB:Hid ((∀ q,(q=g1∨(g1+1≤q∧q<mid))→lo≤q∧q<hi)∧(∀ q,(q=g2∨(g2+1≤q∧q<hi))→lo≤q∧q<hi)):=⟨fun q e=>by omega,fun q e=>by omega⟩
 clear hk hW0 hg hq h3 h6 a1 a2 a3 a4 a5 a6 h hz hsz hs
 go_enter Tryz.func16,Tryz.ntmps16
 go_upto_region 1 with fail
 rw [←HW0.out]
 go_wp2_with fail
 refine HM1.out.mono ?_;rintro e w1 ⟨rfl,hO1⟩
 clear x1 x2 x3 x4 x5 HM1
 obtain ⟨x6,x7,x8,x9,x10⟩:=HX.out w1 hO1
 have HO1:=hid hO1
 clear hO1
 go_wp2_with fail
 refine (HM2.out w1 HO1.out).mono ?_;rintro e w2 ⟨rfl,hO2⟩
 have HO2:=hid ((HO0.out.trans (HO1.out.sub HSB.out.1)).trans (hO2.sub HSB.out.2))
 clear x6 x7 x8 x9 x10 hO2
 go_wp2
 go_ret
 exact ⟨_,rfl,HY.out,HHK.out.2,HO2.out⟩
end
end Go.Proofs.YtgfkglhelfkpoaaGreat
