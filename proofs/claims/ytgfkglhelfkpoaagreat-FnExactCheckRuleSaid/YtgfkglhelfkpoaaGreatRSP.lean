/- Texts put together: WRuleI4, WRuleI5, WRuleL1. -/
import Derived.Test.YtgfkglhelfkpoaaGreatRSO
set_option maxRecDepth 100000
set_option maxHeartbeats 4000000
open Go.Lib (hid)
namespace Go.Proofs.YtgfkglhelfkpoaaGreat
section
open Go.RowKit Plain
theorem occ_bd {x:Nd} {v:Int} (hp:x.plain=true) (hf:formed [] 0 v x=true):∀ y∈x.occ,0≤y∧y<v:=by
 unfold Nd.plain at hp
 simp only [Bool.and_eq_true] at hp
 unfold formed at hf
 simp only [Bool.and_eq_true] at hf
 have:=occL_bd (vars:=v) (.cons x.k x.n x.p x.c x.ks .nil) (k':=1) (i:=0) (acc:=[]) (by
  simp only [formedL,Bool.and_eq_true]
  rw [show kidVars 1 v 0=v from rfl]
  exact ⟨⟨hf.1,hf.2⟩,trivial⟩) (by simp only [plainL,hp.1,hp.2];rfl) rfl (fun y hy=>by simp at hy)
 exact this
theorem occ_len {x:Nd} {v:Int} (hp:x.plain=true) (hf:formed [] 0 v x=true) (hv0:0≤v) (hv:v≤12):x.occ.length≤12:=by
 have h:=nodup_len (m:=(List.range v.toNat).map Int.ofNat) (lt_nodup (occ_sorted x)) fun y hy=>by
  obtain ⟨h0,h1⟩:=occ_bd hp hf y hy
  exact List.mem_map.2 ⟨y.toNat,List.mem_range.2 (by omega),by simp;omega⟩
 rw [List.length_map,List.length_range] at h
 omega
theorem variablesOf_any (x:Nd) (K:Option Addr) (cap B:Nat) (v:Int) (w:World) (hKs:ExSl w B x.ks K) (hc:x.ks.len≤cap) (hcm:cap≤maxLen) (hB:B≤w.heap.size) (hsz:x.ks.size≤39) (hp:x.plain=true) (hf:formed [] 0 v x=true) (hv0:0≤v) (hv1:v≤12) :
  Calls Tryz.prog 206 #[exV x.k x.n x.p x.c K x.ks.len cap,.int .i64 v] w fun e w'=>∃ A cap,e=.returned (.tuple #[.slice A x.occ.length cap,.int .i64 0])∧Ints w' A x.occ∧Below w.heap.size w w':=by
 have hmm:=@run_makeMap Tryz.prog
 have hls:=Es.len_le_size x.ks
 have hcm':cap≤9223372036854775807:=by unfold maxLen at hcm;omega
 obtain ⟨W0,hW0⟩:∃ W0,W0=(w.alloc (.cells #[.int .i64 x.k,.int .i64 x.n,.int .i64 x.p,.int .i64 x.c,.slice K x.ks.len cap] 33)).alloc (.map #[] 0):=⟨_,rfl⟩
 have hb0:Below w.heap.size w W0:=by rw [hW0];go_grown
 have hs0:W0.heap.size=w.heap.size+2:=by rw [hW0];simp
 have hq:Cells W0 w.heap.size 33 [.int .i64 x.k,.int .i64 x.n,.int .i64 x.p,.int .i64 x.c,.slice K x.ks.len cap]:=by
  rw [hW0];exact (Cells.new w 33 _).next (by go_grown)
 have hm0:MSet W0 (w.heap.size+1) 0 []:=by
  refine ⟨.map [], ?_,fun y _=>by simp [Maps.has]⟩
  rw [hW0]
  have:=World.ownsMap_made (H:=Unit) (w.alloc (.cells #[.int .i64 x.k,.int .i64 x.n,.int .i64 x.p,.int .i64 x.c,.slice K x.ks.len cap] 33)) Tryz.prog 2 (plainElem Tryz.prog 4)
  simpa using this
 have hpp:=hp
 unfold Nd.plain at hpp
 simp only [Bool.and_eq_true] at hpp
 have HAV:=hid (fun wx=>areVars_any v wx)
 rw [show inR v 0 412=true from inR_true.2 (by omega)] at HAV
 have HVR:=hid (variables_any _ x.ks (Nat.lt_succ_self _) x.k x.n x.p x.c K cap B (w.heap.size+1) 0 [] v W0 (hKs.below (hb0.mono hB)) hc hcm (by omega) (by omega) hm0 (by omega) hpp.1 hpp.2 hf hv0 (by omega))
 have HOL:=hid (occ_len hp hf hv0 hv1)
 have HOS:=hid (occ_sorted x)
 have HOB:Hid (∀ y∈x.occ,(Lit.int .i64 y).wf=true):=fun y hy=>by have:=occ_bd hp hf y hy;exact wf64 (by omega) (by omega)
 have q0:W0.cell? ⟨w.heap.size,0,none⟩=some (.int .i64 x.k):=by rw [hq.cell];rfl
 have q1:W0.cell? ⟨w.heap.size,1,none⟩=some (.int .i64 x.n):=by rw [hq.cell];rfl
 have q2:W0.cell? ⟨w.heap.size,2,none⟩=some (.int .i64 x.p):=by rw [hq.cell];rfl
 have q3:W0.cell? ⟨w.heap.size,3,none⟩=some (.int .i64 x.c):=by rw [hq.cell];rfl
 have q4:W0.cell? ⟨w.heap.size,4,none⟩=some (.slice K x.ks.len cap):=by rw [hq.cell];rfl
 have HB0:=hid hb0
 have HW0:=hid hW0
 have HS0:=hid hs0
 have HEQ:Hid (occN x.k x.n x.ks []=x.occ):=rfl
 clear hKs hb0 hW0 hs0 hq hm0 hpp hp hf
 go_enter Tryz.func206,Tryz.ntmps206
 go_upto_region 2 with fail
 rw [←HW0.out]
 go_wp2_with (go_at_call 152;refine (HAV.out _).mono ?_;rintro e w' ⟨rfl,rfl⟩)
 refine HVR.out.mono ?_;rintro e w1 ⟨rfl,⟨nn,hn,hm⟩,ho⟩
 rw [HEQ.out] at hm
 have HM:=hid (ascending_any (w.heap.size+1) nn x.occ w1 hm HOS.out HOL.out (by omega) HOB.out)
 have HB1:Hid (Below w.heap.size w w1):=HB0.out.trans (ho.below (by have:=HS0.out;omega) (fun q hq=>by omega))
 clear hm ho hn
 go_wp2_with (go_at_call 252;refine HM.out.mono ?_;rintro e w2 ⟨A,cp,rfl,hi,hb⟩)
 go_ret2
 exact ⟨A,cp,rfl,hi,bnext HB1.out hb⟩
theorem occurring_any (x:Nd) (K:Option Addr) (cap B:Nat) (v:Int) (w:World) (hKs:ExSl w B x.ks K) (hc:x.ks.len≤cap) (hcm:cap≤maxLen) (hB:B≤w.heap.size) (hsz:x.ks.size≤39) (hp:x.plain=true) (hf:formed [] 0 v x=true) (hv0:0≤v) (hv1:v≤12) :
  Calls Tryz.prog 129 #[exV x.k x.n x.p x.c K x.ks.len cap,.int .i64 v] w fun e w'=>∃ A cap,e=.returned (.slice A x.occ.length cap)∧Ints w' A x.occ∧Below w.heap.size w w':=by
 have hls:=Es.len_le_size x.ks
 have hcm':cap≤9223372036854775807:=by unfold maxLen at hcm;omega
 obtain ⟨W0,hW0⟩:∃ W0,W0=w.alloc (.cells #[.int .i64 x.k,.int .i64 x.n,.int .i64 x.p,.int .i64 x.c,.slice K x.ks.len cap] 33):=⟨_,rfl⟩
 have hb0:Below w.heap.size w W0:=by rw [hW0];go_grown
 have HV:=hid (variablesOf_any x K cap B v W0 (hKs.below (hb0.mono hB)) hc hcm (by have:=hb0.size;omega) hsz hp hf hv0 hv1)
 have HB0:=hid hb0
 have HW0:=hid hW0
 clear hKs hb0 hW0 hp hf
 go_enter Tryz.func129,Tryz.ntmps129
 go_wp2_with fail
 rw [←HW0.out]
 refine HV.out.mono ?_;rintro e w1 ⟨A,cp,rfl,hi,hb⟩
 have HI:=hid hi
 have HB:=hid (HB0.out.trans (hb.mono HB0.out.size))
 clear hi hb
 go_wp2
 go_ret
 exact ⟨A,cp,rfl,HI.out,HB.out⟩
end
section
open Go.RowKit Plain
abbrev ruV (v:Int) (l:Nd) (KL:Option Addr) (cl:Nat) (r:Nd) (KR:Option Addr) (cr:Nat):Value:=
 .agg #[.int .i64 v,.int .i64 l.k,.int .i64 l.n,.int .i64 l.p,.int .i64 l.c,.slice KL l.ks.len cl,.int .i64 r.k,.int .i64 r.n,.int .i64 r.p,.int .i64 r.c,.slice KR r.ks.len cr]
theorem ruleC_any (A:Option Addr) (cap:Nat) (zs:List Int) (b:Nat) (x:Int) (w:World) (hA:Ints w A zs) (hl:zs.length≤1048576) (hq:w.cell? ⟨b,0,none⟩=some (.slice A zs.length cap)) :
  Calls Tryz.prog 131 #[.int .i64 x,.pointer (some ⟨b,0,none⟩)] w fun e w'=>e=.returned (.bool (!zs.contains x))∧w=w':=by
 have HC:=hid (containsI_any A cap zs x w hA hl)
 obtain ⟨rr,hrr⟩:∃ rr,rr=zs.contains x:=⟨_,rfl⟩
 rw [←hrr] at HC ⊢
 clear hA hrr
 go_enter Tryz.func131,Tryz.ntmps131
 go_wp2_with fail
 refine HC.out.mono ?_;rintro e w' ⟨rfl,rfl⟩
 go_wp2
 go_ret
 exact ⟨rfl,rfl⟩
theorem any_not_all {l:List Int} {p:Int→Bool}:(!l.any fun y=>!p y)=l.all p:=by
 induction l with
 | nil=>rfl
 | cons x xs ih=>simp only [List.any_cons,List.all_cons,←ih];cases p x<;>simp
theorem ruleI_any (v:Int) (l r:Nd) (KL KR:Option Addr) (cl cr B:Nat) (w:World) (hL:ExSl w B l.ks KL) (hcl:l.ks.len≤cl) (hml:cl≤maxLen) (hR:ExSl w B r.ks KR) (hcr:r.ks.len≤cr) (hmr:cr≤maxLen) (hB:B≤w.heap.size) (hsl:l.ks.size≤1048576) (hsr:r.ks.size≤1048576) :
  Calls Tryz.prog 62 #[ruV v l KL cl r KR cr] w (FPost (ruleOk v l r) w):=by
 have hll:=Es.len_le_size l.ks
 have hlr:=Es.len_le_size r.ks
 have hcl':cl≤9223372036854775807:=by unfold maxLen at hml;omega
 have hcr':cr≤9223372036854775807:=by unfold maxLen at hmr;omega
 obtain ⟨W0,hW0⟩:∃ W0,W0=w.alloc (.cells #[.int .i64 v,.int .i64 l.k,.int .i64 l.n,.int .i64 l.p,.int .i64 l.c,.slice KL l.ks.len cl,.int .i64 r.k,.int .i64 r.n,.int .i64 r.p,.int .i64 r.c,.slice KR r.ks.len cr] 35):=⟨_,rfl⟩
 have hb0:Below w.heap.size w W0:=by rw [hW0];go_grown
 have hs0:W0.heap.size=w.heap.size+1:=by rw [hW0];simp
 have hq:Cells W0 w.heap.size 35 [.int .i64 v,.int .i64 l.k,.int .i64 l.n,.int .i64 l.p,.int .i64 l.c,.slice KL l.ks.len cl,.int .i64 r.k,.int .i64 r.n,.int .i64 r.p,.int .i64 r.c,.slice KR r.ks.len cr]:=by rw [hW0];exact Cells.new w 35 _
 have q0:W0.cell? ⟨w.heap.size,0,none⟩=some (.int .i64 v):=by rw [hq.cell];rfl
 have q1:W0.cell? ⟨w.heap.size,1,none⟩=some (.int .i64 l.k):=by rw [hq.cell];rfl
 have q2:W0.cell? ⟨w.heap.size,2,none⟩=some (.int .i64 l.n):=by rw [hq.cell];rfl
 have q3:W0.cell? ⟨w.heap.size,3,none⟩=some (.int .i64 l.p):=by rw [hq.cell];rfl
 have q4:W0.cell? ⟨w.heap.size,4,none⟩=some (.int .i64 l.c):=by rw [hq.cell];rfl
 have q5:W0.cell? ⟨w.heap.size,5,none⟩=some (.slice KL l.ks.len cl):=by rw [hq.cell];rfl
 have q6:W0.cell? ⟨w.heap.size,6,none⟩=some (.int .i64 r.k):=by rw [hq.cell];rfl
 have q7:W0.cell? ⟨w.heap.size,7,none⟩=some (.int .i64 r.n):=by rw [hq.cell];rfl
 have q8:W0.cell? ⟨w.heap.size,8,none⟩=some (.int .i64 r.p):=by rw [hq.cell];rfl
 have q9:W0.cell? ⟨w.heap.size,9,none⟩=some (.int .i64 r.c):=by rw [hq.cell];rfl
 have q10:W0.cell? ⟨w.heap.size,10,none⟩=some (.slice KR r.ks.len cr):=by rw [hq.cell];rfl
 have HIL:Hid (∀ wx,Below W0.heap.size W0 wx→Calls Tryz.prog 128 #[exV l.k l.n l.p l.c KL l.ks.len cl,.int .i64 v] wx (FPost (sideOk l v) wx)):=fun wx h=>
  isSide_any l KL cl B v wx ((hL.below (hb0.mono hB)).below (h.mono (by omega))) hcl hml (by have:=h.size;omega) hsl
 have HIR:Hid (∀ wx,Below W0.heap.size W0 wx→Calls Tryz.prog 128 #[exV r.k r.n r.p r.c KR r.ks.len cr,.int .i64 v] wx (FPost (sideOk r v) wx)):=fun wx h=>
  isSide_any r KR cr B v wx ((hR.below (hb0.mono hB)).below (h.mono (by omega))) hcr hmr (by have:=h.size;omega) hsr
 have HOL:Hid (sideOk l v=true→v≤3→∀ wx,Below W0.heap.size W0 wx→Calls Tryz.prog 129 #[exV l.k l.n l.p l.c KL l.ks.len cl,.int .i64 v] wx fun e w'=>∃ A cap,e=.returned (.slice A l.occ.length cap)∧Ints w' A l.occ∧Below wx.heap.size wx w'):=fun hs hv wx h=>by
  obtain ⟨h1,h2,h3,h4,h5⟩:=sideOk_parts hs
  exact occurring_any l KL cl B v wx ((hL.below (hb0.mono hB)).below (h.mono (by omega))) hcl hml (by have:=h.size;omega) h1 h2 h3 h4 (by omega)
 have HOR:Hid (sideOk r v=true→v≤3→∀ wx,Below W0.heap.size W0 wx→Calls Tryz.prog 129 #[exV r.k r.n r.p r.c KR r.ks.len cr,.int .i64 v] wx fun e w'=>∃ A cap,e=.returned (.slice A r.occ.length cap)∧Ints w' A r.occ∧Below wx.heap.size wx w'):=fun hs hv wx h=>by
  obtain ⟨h1,h2,h3,h4,h5⟩:=sideOk_parts hs
  exact occurring_any r KR cr B v wx ((hR.below (hb0.mono hB)).below (h.mono (by omega))) hcr hmr (by have:=h.size;omega) h1 h2 h3 h4 (by omega)
 have HNL:Hid (sideOk l v=true→v≤3→l.occ.length≤12):=fun hs hv=>by
  obtain ⟨h1,h2,h3,h4,h5⟩:=sideOk_parts hs
  exact occ_len h2 h3 h4 (by omega)
 have HNR:Hid (sideOk r v=true→v≤3→r.occ.length≤12):=fun hs hv=>by
  obtain ⟨h1,h2,h3,h4,h5⟩:=sideOk_parts hs
  exact occ_len h2 h3 h4 (by omega)
 have HB0:=hid hb0
 have HW0:=hid hW0
 have HV0:Hid (ruleOk v l r=(inR v 0 3&&sideOk l v&&sideOk r v&&!(l.k==2)&&r.occ.all (fun y=>l.occ.contains y))):=rfl
 have HIN:=hid (fun wx=>within_any v 0 3 wx)
 obtain ⟨ss,hss⟩:∃ ss,ss=ruleOk v l r:=⟨_,rfl⟩
 rw [←hss] at HV0 ⊢
 clear hL hR hb0 hW0 hs0 hq hss
 cases hin:inR v 0 3
 case false=>
  rw [hin] at HIN HV0
  have HV:Hid (ss=false):=HV0.out
  clear hin HIL HIR HOL HOR HNL HNR
  go_enter Tryz.func62,Tryz.ntmps62
  go_upto_region 1 with fail
  rw [←HW0.out]
  go_wp2_with (go_at_call 90;refine (HIN.out _).mono ?_;rintro e w' ⟨rfl,rfl⟩)
  go_ret
  exact ⟨ret_bool HV.out.symm,HB0.out⟩
 have hv3:v≤3:=(inR_true.1 hin).2
 rw [hin] at HIN HV0
 have HCL:=hid (HIL.out W0 (Below.refl _ _))
 clear HIL hin
 cases hl:sideOk l v
 case false=>
  rw [hl] at HCL HV0
  have HV:Hid (ss=false):=HV0.out
  clear hl HIR HOL HOR HNL HNR
  go_enter Tryz.func62,Tryz.ntmps62
  go_upto_region 1 with fail
  rw [←HW0.out]
  go_wp2_with (go_at_call 90;refine (HIN.out _).mono ?_;rintro e w' ⟨rfl,rfl⟩)
  refine HCL.out.mono ?_;rintro e w1 ⟨rfl,hb1⟩
  have HB1:Hid (Below w.heap.size w w1):=HB0.out.trans (hb1.mono HB0.out.size)
  clear hb1
  go_wp2
  go_ret
  exact ⟨ret_bool HV.out.symm,HB1.out⟩
 have HOL2:=hid (HOL.out hl hv3)
 have HNL2:=HNL.out hl hv3
 rw [hl] at HCL HV0
 clear hl HOL HNL
 cases hr:sideOk r v
 case false=>
  have HCR:Hid (∀ wx,Below W0.heap.size W0 wx→Calls Tryz.prog 128 #[exV r.k r.n r.p r.c KR r.ks.len cr,.int .i64 v] wx (FPost false wx)):=fun wx h=>by have:=HIR.out wx h;rwa [hr] at this
  rw [hr] at HV0
  have HV:Hid (ss=false):=HV0.out
  clear hr HIR HOR HNR HOL2 HNL2
  go_enter Tryz.func62,Tryz.ntmps62
  go_upto_region 1 with fail
  rw [←HW0.out]
  go_wp2_with (go_at_call 90;refine (HIN.out _).mono ?_;rintro e w' ⟨rfl,rfl⟩)
  refine HCL.out.mono ?_;rintro e w1 ⟨rfl,hb1⟩
  have HB1:Hid (Below w.heap.size w w1):=HB0.out.trans (hb1.mono HB0.out.size)
  have HCR2:=hid (HCR.out w1 hb1)
  have HB01:=hid hb1
  have r0:=keepC q0 hb1
  have r1:=keepC q1 hb1
  have r2:=keepC q2 hb1
  have r3:=keepC q3 hb1
  have r4:=keepC q4 hb1
  have r5:=keepC q5 hb1
  have r6:=keepC q6 hb1
  have r7:=keepC q7 hb1
  have r8:=keepC q8 hb1
  have r9:=keepC q9 hb1
  have r10:=keepC q10 hb1
  clear q0 q1 q2 q3 q4 q5 q6 q7 q8 q9 q10
  clear hb1 HCR
  go_wp2_with fail
  refine HCR2.out.mono ?_;rintro e w2 ⟨rfl,hb2⟩
  have HB2:Hid (Below w.heap.size w w2):=bnext HB1.out hb2
  have HB02:Hid (Below W0.heap.size W0 w2):=bnext HB01.out hb2
  have s0:=keepC r0 hb2
  have s1:=keepC r1 hb2
  have s2:=keepC r2 hb2
  have s3:=keepC r3 hb2
  have s4:=keepC r4 hb2
  have s5:=keepC r5 hb2
  have s6:=keepC r6 hb2
  have s7:=keepC r7 hb2
  have s8:=keepC r8 hb2
  have s9:=keepC r9 hb2
  have s10:=keepC r10 hb2
  clear r0 r1 r2 r3 r4 r5 r6 r7 r8 r9 r10
  clear hb2
  go_wp2
  go_ret
  exact ⟨ret_bool HV.out.symm,HB2.out⟩
 have HOR2:=hid (HOR.out hr hv3)
 have HNR2:=HNR.out hr hv3
 have HCR:Hid (∀ wx,Below W0.heap.size W0 wx→Calls Tryz.prog 128 #[exV r.k r.n r.p r.c KR r.ks.len cr,.int .i64 v] wx (FPost true wx)):=fun wx h=>by have:=HIR.out wx h;rwa [hr] at this
 rw [hr] at HV0
 clear hr HOR HNR HIR
 cases hk:(l.k==2)
 case true=>
  rw [hk] at HV0
  have HV:Hid (ss=false):=HV0.out
  clear HOR2 HNR2 HOL2 HNL2
  go_enter Tryz.func62,Tryz.ntmps62
  go_upto_region 1 with fail
  rw [←HW0.out]
  go_wp2_with (go_at_call 90;refine (HIN.out _).mono ?_;rintro e w' ⟨rfl,rfl⟩)
  refine HCL.out.mono ?_;rintro e w1 ⟨rfl,hb1⟩
  have HB1:Hid (Below w.heap.size w w1):=HB0.out.trans (hb1.mono HB0.out.size)
  have HCR2:=hid (HCR.out w1 hb1)
  have HB01:=hid hb1
  have r0:=keepC q0 hb1
  have r1:=keepC q1 hb1
  have r2:=keepC q2 hb1
  have r3:=keepC q3 hb1
  have r4:=keepC q4 hb1
  have r5:=keepC q5 hb1
  have r6:=keepC q6 hb1
  have r7:=keepC q7 hb1
  have r8:=keepC q8 hb1
  have r9:=keepC q9 hb1
  have r10:=keepC q10 hb1
  clear q0 q1 q2 q3 q4 q5 q6 q7 q8 q9 q10
  clear hb1 HCR
  go_wp2_with fail
  refine HCR2.out.mono ?_;rintro e w2 ⟨rfl,hb2⟩
  have HB2:Hid (Below w.heap.size w w2):=bnext HB1.out hb2
  have HB02:Hid (Below W0.heap.size W0 w2):=bnext HB01.out hb2
  have s0:=keepC r0 hb2
  have s1:=keepC r1 hb2
  have s2:=keepC r2 hb2
  have s3:=keepC r3 hb2
  have s4:=keepC r4 hb2
  have s5:=keepC r5 hb2
  have s6:=keepC r6 hb2
  have s7:=keepC r7 hb2
  have s8:=keepC r8 hb2
  have s9:=keepC r9 hb2
  have s10:=keepC r10 hb2
  clear r0 r1 r2 r3 r4 r5 r6 r7 r8 r9 r10
  clear hb2
  go_wp2
  go_ret
  exact ⟨ret_bool HV.out.symm,HB2.out⟩
 rw [hk] at HV0
 have HV:Hid (ss=!r.occ.any fun y=>!l.occ.contains y):=by show _=_;rw [HV0.out,any_not_all];rfl
 obtain ⟨aa,haa⟩:∃ aa,aa=r.occ.any fun y=>!l.occ.contains y:=⟨_,rfl⟩
 rw [←haa] at HV
 have HAA:=hid haa
 clear HV0 haa
 go_enter Tryz.func62,Tryz.ntmps62
 go_upto_region 1 with fail
 rw [←HW0.out]
 go_wp2_with (go_at_call 90;refine (HIN.out _).mono ?_;rintro e w' ⟨rfl,rfl⟩)
 refine HCL.out.mono ?_;rintro e w1 ⟨rfl,hb1⟩
 have HB1:Hid (Below w.heap.size w w1):=HB0.out.trans (hb1.mono HB0.out.size)
 have HCR2:=hid (HCR.out w1 hb1)
 have HB01:=hid hb1
 have r0:=keepC q0 hb1
 have r1:=keepC q1 hb1
 have r2:=keepC q2 hb1
 have r3:=keepC q3 hb1
 have r4:=keepC q4 hb1
 have r5:=keepC q5 hb1
 have r6:=keepC q6 hb1
 have r7:=keepC q7 hb1
 have r8:=keepC q8 hb1
 have r9:=keepC q9 hb1
 have r10:=keepC q10 hb1
 clear q0 q1 q2 q3 q4 q5 q6 q7 q8 q9 q10
 clear hb1 HCR
 go_wp2_with fail
 refine HCR2.out.mono ?_;rintro e w2 ⟨rfl,hb2⟩
 have HB2:Hid (Below w.heap.size w w2):=bnext HB1.out hb2
 have HB02:Hid (Below W0.heap.size W0 w2):=bnext HB01.out hb2
 have s0:=keepC r0 hb2
 have s1:=keepC r1 hb2
 have s2:=keepC r2 hb2
 have s3:=keepC r3 hb2
 have s4:=keepC r4 hb2
 have s5:=keepC r5 hb2
 have s6:=keepC r6 hb2
 have s7:=keepC r7 hb2
 have s8:=keepC r8 hb2
 have s9:=keepC r9 hb2
 have s10:=keepC r10 hb2
 clear r0 r1 r2 r3 r4 r5 r6 r7 r8 r9 r10
 clear hb2
 have HO3:=hid (HOL2.out w2 HB02.out)
 clear HOL2
 go_wp2_with fail
 refine HO3.out.mono ?_;rintro e w3 ⟨AL,capL,rfl,hiL,hb3⟩
 have HIL:=hid hiL
 have HB3:Hid (Below w.heap.size w w3):=bnext HB2.out hb3
 have HB03:Hid (Below W0.heap.size W0 w3):=bnext HB02.out hb3
 have t0:=keepC s0 hb3
 have t1:=keepC s1 hb3
 have t2:=keepC s2 hb3
 have t3:=keepC s3 hb3
 have t4:=keepC s4 hb3
 have t5:=keepC s5 hb3
 have t6:=keepC s6 hb3
 have t7:=keepC s7 hb3
 have t8:=keepC s8 hb3
 have t9:=keepC s9 hb3
 have t10:=keepC s10 hb3
 clear s0 s1 s2 s3 s4 s5 s6 s7 s8 s9 s10
 clear hb3 hiL
 obtain ⟨W3,hW3⟩:∃ W3,W3=w3.alloc (.cells #[.slice AL l.occ.length capL] 28):=⟨_,rfl⟩
 have hb4:Below w3.heap.size w3 W3:=by rw [hW3];go_grown
 have hc4:W3.cell? ⟨w3.heap.size,0,none⟩=some (.slice AL l.occ.length capL):=by rw [hW3,(Cells.new w3 28 [.slice AL l.occ.length capL]).cell];rfl
 have HB4:Hid (Below w.heap.size w W3):=bnext HB3.out hb4
 have HB04:Hid (Below W0.heap.size W0 W3):=bnext HB03.out hb4
 have HIL4:=hid (HIL.out.below hb4)
 have u0:=keepC t0 hb4
 have u1:=keepC t1 hb4
 have u2:=keepC t2 hb4
 have u3:=keepC t3 hb4
 have u4:=keepC t4 hb4
 have u5:=keepC t5 hb4
 have u6:=keepC t6 hb4
 have u7:=keepC t7 hb4
 have u8:=keepC t8 hb4
 have u9:=keepC t9 hb4
 have u10:=keepC t10 hb4
 clear t0 t1 t2 t3 t4 t5 t6 t7 t8 t9 t10
 have HW3:=hid hW3
 have HO4:=hid (HOR2.out W3 HB04.out)
 clear hb4 hW3 HOR2
 go_upto_region 4 with fail
 rw [←HW3.out]
 go_wp2_with fail
 refine HO4.out.mono ?_;rintro e w4 ⟨AR,capR,rfl,hiR,hb5⟩
 have hc5:=keepC hc4 hb5
 have HCC:=hid (containsFuncI AR capR r.occ w4 hiR (by omega) 131 (enters Tryz.func131 (by kernel_rfl) rfl) #[.pointer (some ⟨w3.heap.size,0,none⟩)] (fun y=>!l.occ.contains y) (fun x=>ruleC_any AL capL l.occ w3.heap.size x w4 (HIL4.out.below hb5) (by omega) hc5))
 rw [←HAA.out] at HCC
 have HB5:Hid (Below w.heap.size w w4):=bnext HB4.out hb5
 clear hb5 hiR hc4 hc5
 go_wp2_with fail
 refine HCC.out.mono ?_;rintro e w5 ⟨rfl,rfl⟩
 go_wp2
 go_ret
 exact ⟨ret_bool HV.out.symm,HB5.out⟩
end
section
open Go.RowKit Plain
theorem szV_add (a b:Nat) (y:Int):szV (a+b) y=if 0≤szV a y then szV b (szV a y) else -1:=by
 by_cases h1:(a:Int)≤y
 ·rw [szV_yes h1,if_pos (show 0≤y - a by omega)]
  by_cases h2:(b:Int)≤y - a
  ·rw [szV_yes h2,szV_yes (by omega)];omega
  ·rw [szV_no h2,szV_no (by omega)]
 ·rw [szV_no h1,if_neg (by omega),szV_no (by omega)]
theorem szRule_any (v:Int) (l r:Nd) (KL KR:Option Addr) (cl cr B:Nat) (y:Int) (w:World) (hL:ExSl w B l.ks KL) (hml:l.ks.len≤9223372036854775807) (hR:ExSl w B r.ks KR) (hmr:r.ks.len≤9223372036854775807) (hB:B≤w.heap.size) (y0:0≤y) (y1:y≤1048576) :
  Calls Tryz.prog 10 #[ruV v l KL cl r KR cr,.int .i64 y] w fun e w'=>e=.returned (.int .i64 (szV (l.ks.size+r.ks.size) y))∧Below w.heap.size w w':=by
 obtain ⟨W0,hW0⟩:∃ W0,W0=w.alloc (.cells #[.int .i64 v,.int .i64 l.k,.int .i64 l.n,.int .i64 l.p,.int .i64 l.c,.slice KL l.ks.len cl,.int .i64 r.k,.int .i64 r.n,.int .i64 r.p,.int .i64 r.c,.slice KR r.ks.len cr] 26):=⟨_,rfl⟩
 have hb0:Below w.heap.size w W0:=by rw [hW0];go_grown
 have hq:Cells W0 w.heap.size 26 [.int .i64 v,.int .i64 l.k,.int .i64 l.n,.int .i64 l.p,.int .i64 l.c,.slice KL l.ks.len cl,.int .i64 r.k,.int .i64 r.n,.int .i64 r.p,.int .i64 r.c,.slice KR r.ks.len cr]:=by rw [hW0];exact Cells.new w 26 _
 have HC1:=hid (szExpr_of (szExprS_all l.ks) l.k l.n l.p l.c KL cl B y W0 (hL.below (hb0.mono hB)) (Nat.le_trans hB hb0.size) hml y0 y1)
 have HC2:Hid (∀ wx z,Below W0.heap.size W0 wx→0≤z→z≤1048576→Calls Tryz.prog 20 #[exV r.k r.n r.p r.c KR r.ks.len cr,.int .i64 z] wx fun e w'=>e=.returned (.int .i64 (szV r.ks.size z))∧Below wx.heap.size wx w'):=fun wx z h z0 z1=>
  szExpr_of (szExprS_all r.ks) r.k r.n r.p r.c KR cr B z wx ((hR.below (hb0.mono hB)).below (h.mono (Nat.le_trans hB hb0.size))) (Nat.le_trans (Nat.le_trans hB hb0.size) h.size) hmr z0 z1
 have q1:W0.cell? ⟨w.heap.size,1,none⟩=some (.int .i64 l.k):=by rw [hq.cell];rfl
 have q2:W0.cell? ⟨w.heap.size,2,none⟩=some (.int .i64 l.n):=by rw [hq.cell];rfl
 have q3:W0.cell? ⟨w.heap.size,3,none⟩=some (.int .i64 l.p):=by rw [hq.cell];rfl
 have q4:W0.cell? ⟨w.heap.size,4,none⟩=some (.int .i64 l.c):=by rw [hq.cell];rfl
 have q5:W0.cell? ⟨w.heap.size,5,none⟩=some (.slice KL l.ks.len cl):=by rw [hq.cell];rfl
 have q6:W0.cell? ⟨w.heap.size,6,none⟩=some (.int .i64 r.k):=by rw [hq.cell];rfl
 have q7:W0.cell? ⟨w.heap.size,7,none⟩=some (.int .i64 r.n):=by rw [hq.cell];rfl
 have q8:W0.cell? ⟨w.heap.size,8,none⟩=some (.int .i64 r.p):=by rw [hq.cell];rfl
 have q9:W0.cell? ⟨w.heap.size,9,none⟩=some (.int .i64 r.c):=by rw [hq.cell];rfl
 have q10:W0.cell? ⟨w.heap.size,10,none⟩=some (.slice KR r.ks.len cr):=by rw [hq.cell];rfl
 have HB0:=hid hb0
 have HW0:=hid hW0
 clear hL hR hb0 hW0 hq
 have HSP:Hid (szV (l.ks.size+r.ks.size) y=if 0≤szV l.ks.size y then szV r.ks.size (szV l.ks.size y) else -1):=by
  exact szV_add _ _ _
 have hs1:szV l.ks.size y≤1048576:=by unfold szV;split<;>omega
 have hs0:szV l.ks.size y=-1∨0≤szV l.ks.size y:=by unfold szV;split<;>omega
 obtain ⟨u,hu⟩:∃ u,u=szV l.ks.size y:=⟨_,rfl⟩
 rw [←hu] at HC1 HSP hs0 hs1
 obtain ⟨t,ht⟩:∃ t,t=szV (l.ks.size+r.ks.size) y:=⟨_,rfl⟩
 rw [←ht] at HSP ⊢
 clear hu ht
 rcases hs0 with rfl | hs0
 ·have HV:Hid (t=-1):=by show _=_;rw [HSP.out,if_neg (by omega)]
  go_enter Tryz.func10,Tryz.ntmps10
  go_wp2_with fail
  rw [←HW0.out]
  refine HC1.out.mono ?_;rintro e w1 ⟨rfl,hb1⟩
  have HB1:Hid (Below w.heap.size w w1):=HB0.out.trans (hb1.mono HB0.out.size)
  clear hb1
  go_wp2
  go_ret
  exact ⟨ret_int HV.out.symm,HB1.out⟩
 ·have HV:Hid (t=szV r.ks.size u):=by show _=_;rw [HSP.out,if_pos hs0]
  have hr:szV r.ks.size u=-1∨0≤szV r.ks.size u:=by unfold szV;split<;>omega
  have HC3:Hid (∀ wx,Below W0.heap.size W0 wx→Calls Tryz.prog 20 #[exV r.k r.n r.p r.c KR r.ks.len cr,.int .i64 u] wx fun e w'=>e=.returned (.int .i64 t)∧Below wx.heap.size wx w'):=fun wx h=>by rw [HV.out];exact HC2.out wx u h hs0 hs1
  rw [←HV.out] at hr
  clear HV HC2 HSP
  go_enter Tryz.func10,Tryz.ntmps10
  go_wp2_with fail
  rw [←HW0.out]
  refine HC1.out.mono ?_;rintro e w1 ⟨rfl,hb1⟩
  have HB1:Hid (Below w.heap.size w w1):=HB0.out.trans (hb1.mono HB0.out.size)
  have r6:=keepC q6 hb1
  have r7:=keepC q7 hb1
  have r8:=keepC q8 hb1
  have r9:=keepC q9 hb1
  have r10:=keepC q10 hb1
  have HC4:=hid (HC3.out w1 hb1)
  clear hb1 q1 q2 q3 q4 q5 q6 q7 q8 q9 q10
  go_wp2_with fail
  refine HC4.out.mono ?_;rintro e w2 ⟨rfl,hb2⟩
  have HB2:=hid (bnext HB1.out hb2)
  clear hb2
  rcases hr with rfl | hr
  ·go_wp2
   go_ret
   exact ⟨rfl,HB2.out⟩
  ·have hr':¬ t<0:=by omega
   go_wp2
   go_ret
   exact ⟨rfl,HB2.out⟩
theorem eqRule_any (v:Int) (l r:Nd) (KL KR KL' KR':Option Addr) (cl cr cl' cr' B:Nat) (w:World) (hL:ExSl w B l.ks KL) (hR:ExSl w B r.ks KR) (hL':ExSl w B l.ks KL') (hR':ExSl w B r.ks KR') (hB:B≤w.heap.size) (hl:l.ks.size≤1048576) (hr:r.ks.size≤1048576) :
  Calls Tryz.prog 15 #[ruV v l KL cl r KR cr,ruV v l KL' cl' r KR' cr'] w fun e w'=>e=.returned (.bool true)∧Below w.heap.size w w':=by
 obtain ⟨C,hC⟩:∃ C:List Value,C=[.int .i64 v,.int .i64 l.k,.int .i64 l.n,.int .i64 l.p,.int .i64 l.c,.slice KL l.ks.len cl,.int .i64 r.k,.int .i64 r.n,.int .i64 r.p,.int .i64 r.c,.slice KR r.ks.len cr]:=⟨_,rfl⟩
 obtain ⟨C',hC'⟩:∃ C:List Value,C=[.int .i64 v,.int .i64 l.k,.int .i64 l.n,.int .i64 l.p,.int .i64 l.c,.slice KL' l.ks.len cl',.int .i64 r.k,.int .i64 r.n,.int .i64 r.p,.int .i64 r.c,.slice KR' r.ks.len cr']:=⟨_,rfl⟩
 obtain ⟨W0,hW0⟩:∃ W0,W0=(w.alloc (.cells #[.int .i64 v,.int .i64 l.k,.int .i64 l.n,.int .i64 l.p,.int .i64 l.c,.slice KL l.ks.len cl,.int .i64 r.k,.int .i64 r.n,.int .i64 r.p,.int .i64 r.c,.slice KR r.ks.len cr] 35)).alloc (.cells #[.int .i64 v,.int .i64 l.k,.int .i64 l.n,.int .i64 l.p,.int .i64 l.c,.slice KL' l.ks.len cl',.int .i64 r.k,.int .i64 r.n,.int .i64 r.p,.int .i64 r.c,.slice KR' r.ks.len cr'] 35):=⟨_,rfl⟩
 have hb0:Below w.heap.size w W0:=by rw [hW0];go_grown
 have hq:Cells W0 w.heap.size 35 C:=by rw [hW0,hC];exact (Cells.new w 35 _).next (by go_grown)
 have hq':Cells W0 (w.heap.size+1) 35 C':=by
  rw [hW0,hC']
  have:=Cells.new (w.alloc (.cells #[.int .i64 v,.int .i64 l.k,.int .i64 l.n,.int .i64 l.p,.int .i64 l.c,.slice KL l.ks.len cl,.int .i64 r.k,.int .i64 r.n,.int .i64 r.p,.int .i64 r.c,.slice KR r.ks.len cr] 35)) 35 [.int .i64 v,.int .i64 l.k,.int .i64 l.n,.int .i64 l.p,.int .i64 l.c,.slice KL' l.ks.len cl',.int .i64 r.k,.int .i64 r.n,.int .i64 r.p,.int .i64 r.c,.slice KR' r.ks.len cr']
  simpa using this
 have HC1:=hid (eqExpr_of (eqExprS_any (l.ks.size+1) l.ks (by omega)) l.k l.n l.p l.c KL KL' cl cl' B W0 (hL.below (hb0.mono hB)) (hL'.below (hb0.mono hB)) (Nat.le_trans hB hb0.size) hl)
 have HC2:Hid (∀ wx,Below W0.heap.size W0 wx→Calls Tryz.prog 26 #[exV r.k r.n r.p r.c KR r.ks.len cr,exV r.k r.n r.p r.c KR' r.ks.len cr'] wx fun e w'=>e=.returned (.bool true)∧Below wx.heap.size wx w'):=fun wx h=>
  eqExpr_of (eqExprS_any (r.ks.size+1) r.ks (by omega)) r.k r.n r.p r.c KR KR' cr cr' B wx ((hR.below (hb0.mono hB)).below (h.mono (Nat.le_trans hB hb0.size))) ((hR'.below (hb0.mono hB)).below (h.mono (Nat.le_trans hB hb0.size))) (Nat.le_trans (Nat.le_trans hB hb0.size) h.size) hr
 subst hC hC'
 have q0:W0.cell? ⟨w.heap.size,0,none⟩=some (.int .i64 v):=by rw [hq.cell];rfl
 have p0:W0.cell? ⟨w.heap.size+1,0,none⟩=some (.int .i64 v):=by rw [hq'.cell];rfl
 have q1:W0.cell? ⟨w.heap.size,1,none⟩=some (.int .i64 l.k):=by rw [hq.cell];rfl
 have p1:W0.cell? ⟨w.heap.size+1,1,none⟩=some (.int .i64 l.k):=by rw [hq'.cell];rfl
 have q2:W0.cell? ⟨w.heap.size,2,none⟩=some (.int .i64 l.n):=by rw [hq.cell];rfl
 have p2:W0.cell? ⟨w.heap.size+1,2,none⟩=some (.int .i64 l.n):=by rw [hq'.cell];rfl
 have q3:W0.cell? ⟨w.heap.size,3,none⟩=some (.int .i64 l.p):=by rw [hq.cell];rfl
 have p3:W0.cell? ⟨w.heap.size+1,3,none⟩=some (.int .i64 l.p):=by rw [hq'.cell];rfl
 have q4:W0.cell? ⟨w.heap.size,4,none⟩=some (.int .i64 l.c):=by rw [hq.cell];rfl
 have p4:W0.cell? ⟨w.heap.size+1,4,none⟩=some (.int .i64 l.c):=by rw [hq'.cell];rfl
 have q5:W0.cell? ⟨w.heap.size,5,none⟩=some (.slice KL l.ks.len cl):=by rw [hq.cell];rfl
 have p5:W0.cell? ⟨w.heap.size+1,5,none⟩=some (.slice KL' l.ks.len cl'):=by rw [hq'.cell];rfl
 have q6:W0.cell? ⟨w.heap.size,6,none⟩=some (.int .i64 r.k):=by rw [hq.cell];rfl
 have p6:W0.cell? ⟨w.heap.size+1,6,none⟩=some (.int .i64 r.k):=by rw [hq'.cell];rfl
 have q7:W0.cell? ⟨w.heap.size,7,none⟩=some (.int .i64 r.n):=by rw [hq.cell];rfl
 have p7:W0.cell? ⟨w.heap.size+1,7,none⟩=some (.int .i64 r.n):=by rw [hq'.cell];rfl
 have q8:W0.cell? ⟨w.heap.size,8,none⟩=some (.int .i64 r.p):=by rw [hq.cell];rfl
 have p8:W0.cell? ⟨w.heap.size+1,8,none⟩=some (.int .i64 r.p):=by rw [hq'.cell];rfl
 have q9:W0.cell? ⟨w.heap.size,9,none⟩=some (.int .i64 r.c):=by rw [hq.cell];rfl
 have p9:W0.cell? ⟨w.heap.size+1,9,none⟩=some (.int .i64 r.c):=by rw [hq'.cell];rfl
 have q10:W0.cell? ⟨w.heap.size,10,none⟩=some (.slice KR r.ks.len cr):=by rw [hq.cell];rfl
 have p10:W0.cell? ⟨w.heap.size+1,10,none⟩=some (.slice KR' r.ks.len cr'):=by rw [hq'.cell];rfl
 have HB0:=hid hb0
 have HW0:=hid hW0
 clear hL hR hL' hR' hb0 hW0 hq hq'
 go_enter Tryz.func15,Tryz.ntmps15
 go_upto_region 1 with fail
 rw [←HW0.out]
 go_wp2_with fail
 refine HC1.out.mono ?_;rintro e w1 ⟨rfl,hb1⟩
 have HB1:Hid (Below w.heap.size w w1):=HB0.out.trans (hb1.mono HB0.out.size)
 have r6:=keepC q6 hb1
 have s6:=keepC p6 hb1
 have r7:=keepC q7 hb1
 have s7:=keepC p7 hb1
 have r8:=keepC q8 hb1
 have s8:=keepC p8 hb1
 have r9:=keepC q9 hb1
 have s9:=keepC p9 hb1
 have r10:=keepC q10 hb1
 have s10:=keepC p10 hb1
 clear q0 p0 q1 p1 q2 p2 q3 p3 q4 p4 q5 p5 q6 p6 q7 p7 q8 p8 q9 p9 q10 p10
 have HC4:=hid (HC2.out w1 hb1)
 clear hb1
 go_wp2_with fail
 refine HC4.out.mono ?_;rintro e w2 ⟨rfl,hb2⟩
 have HB2:=hid (bnext HB1.out hb2)
 clear hb2
 go_wp2
 go_ret
 exact ⟨rfl,HB2.out⟩
def RulR (lo hi:Nat) (l r:Nd) (g1 g2:Nat) (w:World):Prop:=∃ mid,lo≤g1∧g1<mid∧ExsM w l.ks (g1+1) mid g1 0∧mid≤g2∧g2<hi∧ExsM w r.ks (g2+1) hi g2 0
theorem RulR.keep {lo hi:Nat} {l r:Nd} {g1 g2:Nat} {w w':World} (h:RulR lo hi l r g1 g2 w) (hb:∀ q,lo≤q→q<hi→w'.heap[q]? = w.heap[q]?):RulR lo hi l r g1 g2 w':=by
 obtain ⟨mid,h1,h2,h3,h4,h5,h6⟩:=h
 exact ⟨mid,h1,h2,h3.keep (SameCells.of_block (hb g1 h1 (by omega)) _ _) (fun q q1 q2=>hb q (by omega) (by omega)),h4,h5,h6.keep (SameCells.of_block (hb g2 (by omega) h5) _ _) (fun q q1 q2=>hb q (by omega) (by omega))⟩
theorem RulR.left {lo hi B:Nat} {l r:Nd} {g1 g2:Nat} {w:World} (h:RulR lo hi l r g1 g2 w) (hB:hi≤B):ExSl w B l.ks (some ⟨g1,0,none⟩):=by
 obtain ⟨mid,h1,h2,h3,h4,h5,h6⟩:=h
 exact ⟨g1,0,fun _=>rfl,h3.exs (by omega) (by omega)⟩
theorem RulR.right {lo hi B:Nat} {l r:Nd} {g1 g2:Nat} {w:World} (h:RulR lo hi l r g1 g2 w) (hB:hi≤B):ExSl w B r.ks (some ⟨g2,0,none⟩):=by
 obtain ⟨mid,h1,h2,h3,h4,h5,h6⟩:=h
 exact ⟨g2,0,fun _=>rfl,h6.exs hB (by omega)⟩
end
end Go.Proofs.YtgfkglhelfkpoaaGreat
