/- Texts put together: WPv13, WPv14. -/
import Derived.Test.YtgfkglhelfkpoaaGreatRPC
import Derived.Test.YtgfkglhelfkpoaaGreatRJ
import Derived.Test.YtgfkglhelfkpoaaGreatRPA
set_option maxRecDepth 100000
set_option maxHeartbeats 4000000
open Go.Lib (hid)
namespace Go.Proofs.YtgfkglhelfkpoaaGreat
section
open Go.RowKit Plain
def divR (a b:List Term') (s:Nat):Res (List Term'):=match numT b with
 | none=>.err 4
 | some n=>if n=0 then .err 6 else .ok (sclT (iv n) a) s
theorem divR_bad {a b:List Term'} {s:Nat} {s' n s2 c2:Int} (h:NumR b s' 0 n s2 c2) (hn:n=0):divR a b s=.err (if c2=0 then 6 else c2):=by
 unfold NumR at h
 unfold divR
 cases hb:numT b with
 | none=>
  rw [hb] at h
  obtain ⟨_,h2⟩:=h
  rw [if_pos rfl] at h2
  subst h2
  rfl
 | some m=>
  rw [hb] at h
  obtain ⟨h1,_,h2⟩:=h
  subst h2
  simp only
  rw [if_pos (by omega),if_pos trivial]
theorem divR_good {a b:List Term'} {s:Nat} {s' n s2 c2:Int} (h:NumR b s' 0 n s2 c2) (hn:n≠0):divR a b s=.ok (sclT (iv n) a) s∧s2=s'∧c2=0∧numT b=some n:=by
 unfold NumR at h
 unfold divR
 cases hb:numT b with
 | none=>
  rw [hb] at h
  exact absurd h.1 hn
 | some m=>
  rw [hb] at h
  obtain ⟨h1,h3,h2⟩:=h
  subst h1
  simp only
  rw [if_neg hn]
  exact ⟨rfl,h3,h2,trivial⟩
theorem poly_op6 (P:List Fn) (x:Nd) (u:Int) (f:Nat) (IH:PolyC P u f) (env:List (List Term')) (t:Nat) (fn:Int) (K:Option Addr) (cap B:Nat) (S:Nat→Prop) (bv:Nat) (A PA:Option Addr) (ecap pcap:Nat) (w:World) (hI:EvIn w B bv 1 P PA pcap) (hS:SIn w B S bv u) (hst:Cells w bv 168 (hdP u P PA pcap++[.int .i64 t,.int .i64 0])) (hN:NdInP w B S u P fn x K cap A env ecap) (hk:x.k=6) (hs:t<3000) (hf:3001≤t+(f+1)) :
  Calls Tryz.prog 176 #[.pointer (some ⟨bv,0,none⟩),exV x.k x.n x.p x.c K x.ks.len cap,.slice A env.length ecap] w (PPost S bv u 168 (hdP u P PA pcap) (pv u P (f+1) x env t) w):=by
 have HEV:Hid (pv u P (f+1) x env t=match pvAll (pv u P f) env x.ks (t+1) with | .err e=>.err e | .ok zs s1=>divR (zs.getD 0 []) (zs.getD 1 []) s1):=by
  show _=_
  rw [pv,if_neg (by omega),if_neg (by omega),if_neg (by omega),if_neg (by omega),if_neg (by omega)]
  cases pvAll (pv u P f) env x.ks (t+1) with
  | err e=>rfl
  | ok zs s1=>simp only;rw [if_neg (by omega)];rw [if_neg (by omega)];unfold pvOp divR;rw [if_neg (by omega)];rw [if_neg (by omega)];rw [if_neg (by omega)];rw [if_neg (by omega)];cases numT (zs.getD 1 [])<;>rfl
 obtain ⟨rr,hrr⟩:∃ rr,rr=pv u P (f+1) x env t:=⟨_,rfl⟩
 rw [←hrr]
 have HRR:=hid (hrr.trans HEV.out)
 clear HEV hrr
 have HALL:=hid (polyAll_of P u f IH)
 have al:=hI.lt
 have hB:=hI.blow
 have u0:=hS.u0
 have u1:=hS.u1
 have a1:w.cell? ⟨bv,1,none⟩=some (.int .i64 u):=by rw [hst.cell];rfl
 have a2:w.cell? ⟨bv,2,none⟩=some (.int .i64 t):=by rw [hst.cell];rfl
 have a3:w.cell? ⟨bv,3,none⟩=some (.int .i64 0):=by rw [hst.cell];rfl
 have z2:w.frozen? ⟨bv,2,none⟩=false:=hst.frozen _
 have e1:((t:Int)==3000)=false:=by simp;omega
 have hE:=pvStep hI hS hst 6 x.n x.p x.c K x.ks.len cap
 have hoS:Only S w (pvW w bv t 6 x.n x.p x.c K x.ks.len cap):=hE.only.sub fun q e=>by rw [e];exact hS.bv
 have HLS:=hid (LsInP.of (g:=w.heap.size+1) hN hoS (only_below hE.only hB al) (by omega) (by omega))
 have HE:=hid hE
 have HN:=hid hN
 have HSI:=hid hS
 have HIH:=hid IH
 have HLN:=hid (formed_opN (N:=2) hN.form (by rw [hk];exact .inl ⟨by omega,rfl⟩))
 clear hI hst hE hN hS IH hoS
 have HKK:=hid hk
 rw [hk]
 clear hk
 go_enter Tryz.func176,Tryz.ntmps176
 go_wp2_with fail
 refine (HALL.out x.ks env ((t+1:Nat):Int) (t+1) 0 fn K cap B (privS S (w.heap.size+1)) bv A PA ecap pcap _ HE.out.ev HE.out.si HE.out.st (fun _=>⟨rfl,by omega,by omega⟩) HLS.out).mono ?_;rintro e w1 ⟨A1,cp,tss,s',c',rfl,hl,hcp,hcm,hEn,hS1,hO1,hres⟩
 have c3:w1.cell? ⟨bv,3,none⟩=some (.int .i64 c'):=by rw [hS1.cell];rfl
 have c1:w1.cell? ⟨bv,1,none⟩=some (.int .i64 u):=by rw [hS1.cell];rfl
 have cl:=hS1.lt
 have HS1:=hid hS1
 have HO1:=hid hO1
 have HEN:=hid hEn
 have HL:=hid hl
 have HRES:=hid hres
 clear hS1 hO1 hEn hres
 by_cases hc:c'=0
 ·have hRES:=pvAC_next HRES.out hc
  subst hc
  obtain ⟨t1,hs1,_,ht1,hev⟩:=hRES.2
  subst hs1
  have HEV:=hid hev
  have HT1:Hid (t1≤3000):=ht1 (by omega)
  have HT2:Hid (t<t1):=by show _<_;omega
  clear hRES hev ht1 HRES
  go_wp2_with fail
  refine (minusOne_any u w1 u0 u1).mono ?_;rintro e w2 ⟨Am,cm,rfl,hp2,hb2⟩
  have HM:=hid (opSt (cm:=cm) HE.out al HS1.out HO1.out HEN.out hp2 hb2)
  clear hp2 hb2 HALL HLS HS1 HO1 HEN c1 c3 cl
  have hlen:tss.length=2:=by rw [HL.out,HLN.out]
  obtain ⟨b1,o1,Aa,ca,Ab,cb,rfl,hb1,hPa,hoa,hsec,hcell⟩:=HM.out.env.two (by omega)
  have l0:(0:Int)<(x.ks.len:Int):=by rw [HLN.out];omega
  have l0n:0<x.ks.len:=by rw [HLN.out];omega
  have l1:(1:Int)<(x.ks.len:Int):=by rw [HLN.out];omega
  have l1n:1<x.ks.len:=by rw [HLN.out];omega
  obtain ⟨hPb,hob⟩:=hsec (by omega)
  have HRV:Hid (rr=divR (tss.getD 0 []) (tss.getD 1 []) t1):=by show _=_;rw [HRR.out,HEV.out]
  obtain ⟨za,hza⟩:∃ z,z=tss.getD 0 []:=⟨_,rfl⟩
  obtain ⟨zb,hzb⟩:∃ z,z=tss.getD 1 []:=⟨_,rfl⟩
  rw [←hza] at hPa hoa HRV
  rw [←hzb] at hPb hob HRV
  have HCELL:Hid (∀ w',OnlyH (privS S (w.heap.size+1)) (w2.alloc (.cells #[.int .i64 u,.slice Am 1 cm] 86)) w'→w'.cell? ⟨b1,o1,none⟩=some (.int .i64 u)∧w'.cell? ⟨b1,o1+1,none⟩=some (.slice Aa za.length ca)∧w'.cell? ⟨b1,o1+2,none⟩=some (.int .i64 u)∧w'.cell? ⟨b1,o1+2+1,none⟩=some (.slice Ab zb.length cb)):=fun w' ho=>by
   rw [hza,hzb]
   exact ⟨(hcell w' ho).1,(hcell w' ho).2.1,(hcell w' ho).2.2 (by omega)⟩
  obtain ⟨_,_,g2,g3⟩:=HCELL.out _ (OnlyH.refl _ _)
  have x0:(w2.alloc (.cells #[.int .i64 u,.slice Am 1 cm] 86)).cell? ⟨w.heap.size,0,none⟩=some (.int .i64 6):=by rw [HM.out.bx.cell];rfl
  have HPA:=hid (And.intro hPa hoa)
  have HNU:=hid (numberI_any P u 0 t1 (privS S (w.heap.size+1)) bv pcap cb PA Ab zb _ HM.out.st hPb hob)
  have HOB:=hid hob
  have HZ:=hid (And.intro hza hzb)
  clear hPa hoa hsec hcell HRR HEV hPb hob hza hzb
  go_wp2_with fail
  refine HNU.out.mono ?_;rintro e w3 ⟨n,s2,c2,rfl,hS3,hO3,hnum⟩
  have HNR:Hid (NumR zb t1 0 n s2 c2):=hnum
  have HS3:=hid hS3
  have HO3:=hid hO3
  clear hS3 hO3 hnum HNU g2 g3 x0
  by_cases hz:n=0
  ·have z0:(n==0)=true:=by simpa using hz
   have HRB:=hid (HRV.out.trans (divR_bad HNR.out hz))
   have HF:=hid (failI_any P u c2 s2 6 (privS S (w.heap.size+1)) bv pcap PA w3 HS3.out u0 u1)
   clear hz
   go_wp2_with fail
   refine HF.out.mono ?_;rintro e w4 ⟨v,ts4,s4,c4,rfl,⟨A4,cp4,rfl,hp4,hk4⟩,hS4,hO4,hres⟩
   rw [←HRB.out] at hres
   have hD:LetEnd S bv u P PA pcap rr w w4 A4 ts4.length cp4:=polyEnd hp4 hk4 hS4 ((HM.out.only.trans HO3.out).trans hO4) hres al (only_cells (only_cells HM.out.rb HO3.out (by omega)) hO4 (by omega))
   obtain ⟨⟨k0,k1,q0,q1⟩,⟨y0,y1⟩,HE2⟩:=hD
   have HE3:=hid HE2
   clear HE2 hp4 hk4 hS4 hO4 hres HF
   go_wp2
   refine bodyPost_ret (v:=poV u A4 ts4.length cp4) (by simp [results,Tryz.results176,go_sem,y0,y1]) rfl ?_
   exact HE3.out
  ·have z0:(n==0)=false:=by simpa using hz
   obtain ⟨hr1,hr2,hr3,hr4⟩:=divR_good (a:=za) (s:=t1) HNR.out hz
   have hbd:=numT_bd HOB.out hr4
   obtain ⟨i0,i1⟩:=iv_bd1 hbd.1 hbd.2 hz
   subst hr2 hr3
   have HM3:=hid (HM.out.only2 al HO3.out HS3.out)
   have HRV3:=hid (HRV.out.trans hr1)
   obtain ⟨m,hm⟩:∃ m,m=iv n:=⟨_,rfl⟩
   have HMM:=hid hm
   rw [←hm] at i0 i1 HRV3
   clear hr1 hr4 hz hm hbd HNR
   have HCL3:Hid (∀ w',Only (fun q=>q=bv) w3 w'→w'.cell? ⟨b1,o1,none⟩=some (.int .i64 u)∧w'.cell? ⟨b1,o1+1,none⟩=some (.slice Aa za.length ca)):=fun w' ho=>by
    have:=HCELL.out w' ((HO3.out.trans ho).sub (T:=privS S (w.heap.size+1)) fun q e=>by rw [e];exact HM.out.si.bv).h
    exact ⟨this.1,this.2.1⟩
   have HPA3:=hid (And.intro (HPA.out.1.only (HO3.out.sub fun q e=>by rw [e];exact HM.out.si.bv)) HPA.out.2)
   clear HCELL HM HRV HPA HS3 HO3 HOB HZ
   go_upto_region 42 with fail
   have hd:Below w3.heap.size w3 w3.drew:=(Below.refl _ _).drew
   obtain ⟨na,hna⟩:∃ n,n=za.length:=⟨_,rfl⟩
   have HNA:=hid hna
   have HB1:Hid (∀ w',Below w3.heap.size w3 w'→w'.cell? ⟨bv,1,none⟩=some (.int .i64 u)):=fun w' hb=>by rw [(HM3.out.st.next hb).cell];rfl
   clear hna
   refine RegE.start (S:=fun wx=>wx.cell? ⟨b1,o1,none⟩=some (.int .i64 u)∧wx.cell? ⟨b1,o1+1,none⟩=some (.slice Aa na ca)∧wx.cell? ⟨bv,1,none⟩=some (.int .i64 u)) 13 (by kernel_rfl) (by kernel_rfl) ?Sa0 (fun hHeld hB=>?_)
   case Sa0=>((try dsimp only);exact (by have h1:=HCL3.out _ (Only.of_below hd);rw [←HNA.out] at h1;exact ⟨h1.1,h1.2,HB1.out _ hd⟩))
   refine RegE.takeL (S:=fun wx=>wx.cell? ⟨b1,o1,none⟩=some (.int .i64 u)∧wx.cell? ⟨b1,o1+1,none⟩=some (.slice Aa na ca)∧wx.cell? ⟨bv,1,none⟩=some (.int .i64 u)) (i:=0) (v:=?va0) hB rfl (by decide) (by kernel_rfl) (by kernel_rfl) (fun _ _ _ h=>h) (Or.inl ⟨by rfl, ?ya0⟩) hHeld ?ra0
   case ya0=>((intro w hSw;(try dsimp only at hSw);go_simp)<;>with_reducible rfl)
   (try simp only [Act.put,List.setIfInBounds_toArray,List.set_cons_zero,List.set_cons_succ])
   refine RegE.takeL (S:=fun wx=>wx.cell? ⟨b1,o1,none⟩=some (.int .i64 u)∧wx.cell? ⟨b1,o1+1,none⟩=some (.slice Aa na ca)∧wx.cell? ⟨bv,1,none⟩=some (.int .i64 u)) (i:=1) (v:=?va1) hB rfl (by decide) (by kernel_rfl) (by kernel_rfl) (fun _ _ _ h=>h) (Or.inl ⟨by rfl, ?ya1⟩) hHeld ?ra1
   case ya1=>((intro w hSw;(try dsimp only at hSw);go_simp)<;>with_reducible rfl)
   (try simp only [Act.put,List.setIfInBounds_toArray,List.set_cons_zero,List.set_cons_succ])
   refine RegE.takeL (S:=fun wx=>wx.cell? ⟨b1,o1,none⟩=some (.int .i64 u)∧wx.cell? ⟨b1,o1+1,none⟩=some (.slice Aa na ca)∧wx.cell? ⟨bv,1,none⟩=some (.int .i64 u)) (i:=2) (v:=?va2) hB rfl (by decide) (by kernel_rfl) (by kernel_rfl) (fun _ _ _ h=>h) (Or.inl ⟨by rfl, ?ya2⟩) hHeld ?ra2
   case ya2=>((intro w hSw;(try dsimp only at hSw);go_simp)<;>with_reducible rfl)
   (try simp only [Act.put,List.setIfInBounds_toArray,List.set_cons_zero,List.set_cons_succ])
   refine RegE.takeL (S:=fun wx=>wx.cell? ⟨b1,o1,none⟩=some (.int .i64 u)∧wx.cell? ⟨b1,o1+1,none⟩=some (.slice Aa na ca)∧wx.cell? ⟨bv,1,none⟩=some (.int .i64 u)) (i:=3) (v:=?va3) hB rfl (by decide) (by kernel_rfl) (by kernel_rfl) (fun _ _ _ h=>h) (Or.inl ⟨by rfl, ?ya3⟩) hHeld ?ra3
   case ya3=>((intro w hSw;(try dsimp only at hSw);go_simp)<;>with_reducible rfl)
   (try simp only [Act.put,List.setIfInBounds_toArray,List.set_cons_zero,List.set_cons_succ])
   refine RegE.takeL (S:=fun wx=>wx.cell? ⟨b1,o1,none⟩=some (.int .i64 u)∧wx.cell? ⟨b1,o1+1,none⟩=some (.slice Aa na ca)∧wx.cell? ⟨bv,1,none⟩=some (.int .i64 u)) (i:=4) (v:=?va4) hB rfl (by decide) (by kernel_rfl) (by kernel_rfl) (fun _ _ _ h=>h) (Or.inl ⟨by rfl, ?ya4⟩) hHeld ?ra4
   case ya4=>((intro w hSw;(try dsimp only at hSw);go_simp)<;>with_reducible rfl)
   (try simp only [Act.put,List.setIfInBounds_toArray,List.set_cons_zero,List.set_cons_succ])
   refine RegE.takeL (S:=fun wx=>wx.cell? ⟨b1,o1,none⟩=some (.int .i64 u)∧wx.cell? ⟨b1,o1+1,none⟩=some (.slice Aa na ca)∧wx.cell? ⟨bv,1,none⟩=some (.int .i64 u)) (i:=5) (v:=?va5) hB rfl (by decide) (by kernel_rfl) (by kernel_rfl) (fun _ _ _ h=>h) (Or.inl ⟨by rfl, ?ya5⟩) hHeld ?ra5
   case ya5=>((intro w hSw;(try dsimp only at hSw);go_simp)<;>with_reducible rfl)
   (try simp only [Act.put,List.setIfInBounds_toArray,List.set_cons_zero,List.set_cons_succ])
   refine RegE.takeL (S:=fun wx=>wx.cell? ⟨b1,o1,none⟩=some (.int .i64 u)∧wx.cell? ⟨b1,o1+1,none⟩=some (.slice Aa na ca)∧wx.cell? ⟨bv,1,none⟩=some (.int .i64 u)) (i:=6) (v:=?va6) hB rfl (by decide) (by kernel_rfl) (by kernel_rfl) (fun _ _ _ h=>h) (Or.inl ⟨by rfl, ?ya6⟩) hHeld ?ra6
   case ya6=>((intro w hSw;(try dsimp only at hSw);go_simp)<;>with_reducible rfl)
   (try simp only [Act.put,List.setIfInBounds_toArray,List.set_cons_zero,List.set_cons_succ])
   refine RegE.takeL (S:=fun wx=>wx.cell? ⟨b1,o1,none⟩=some (.int .i64 u)∧wx.cell? ⟨b1,o1+1,none⟩=some (.slice Aa na ca)∧wx.cell? ⟨bv,1,none⟩=some (.int .i64 u)) (i:=7) (v:=?va7) hB rfl (by decide) (by kernel_rfl) (by kernel_rfl) (fun _ _ _ h=>h) (Or.inl ⟨by rfl, ?ya7⟩) hHeld ?ra7
   case ya7=>((intro w hSw;(try dsimp only at hSw);go_simp)<;>with_reducible rfl)
   (try simp only [Act.put,List.setIfInBounds_toArray,List.set_cons_zero,List.set_cons_succ])
   refine RegE.takeL (S:=fun wx=>wx.cell? ⟨b1,o1,none⟩=some (.int .i64 u)∧wx.cell? ⟨b1,o1+1,none⟩=some (.slice Aa na ca)∧wx.cell? ⟨bv,1,none⟩=some (.int .i64 u)) (i:=8) (v:=?va8) hB rfl (by decide) (by kernel_rfl) (by kernel_rfl) (fun _ _ _ h=>h) (Or.inl ⟨by rfl, ?ya8⟩) hHeld ?ra8
   case ya8=>((intro w hSw;(try dsimp only at hSw);go_simp)<;>with_reducible rfl)
   (try simp only [Act.put,List.setIfInBounds_toArray,List.set_cons_zero,List.set_cons_succ])
   refine RegE.stepL (i:=9) rfl (by decide) (by kernel_rfl) (fun K hK=>?_)
   go_simp
   go_at_call 236
   refine (inverse_any n _).mono ?_
   rintro e w' ⟨rfl,rfl⟩
   rw [←HMM.out]
   refine hK.out _ _ ?Sa9 (fun hHeldN=>?_)
   case Sa9=>((try dsimp only);exact (by have h1:=HCL3.out _ (Only.of_below hd);rw [←HNA.out] at h1;exact ⟨h1.1,h1.2,HB1.out _ hd⟩))
   clear hK K hHeld
   have hHeld:=hHeldN
   clear hHeldN
   (try simp only [Act.put,List.setIfInBounds_toArray,List.set_cons_zero,List.set_cons_succ])
   refine RegE.stepL (i:=10) rfl (by decide) (by kernel_rfl) (fun K hK=>?_)
   go_simp
   go_at_call 135
   refine (constantPoly_any u m w3.drew u0 u1 (by omega) i1).mono ?_
   rintro e w5 ⟨A5,c5,rfl,hR5,hb5⟩
   have hbW:Below w3.heap.size w3 w5:=hd.trans (hb5.mono (Nat.le_refl _))
   have hck:=constT_ok u0 u1 (show 0≤m by omega) i1
   have HTK:=hid (tkC (ca:=ca) (cb:=c5) ((HPA3.out.1.only (Only.of_below hbW)).now) (regTms hR5 (polyOk_totT hck)) HPA3.out.2 hck i0 i1 _ rfl)
   rw [←HNA.out] at HTK
   generalize (constT u m).length=n5 at *
   refine hK.out _ _ ?Sa10 (fun hHeldN=>?_)
   case Sa10=>((try dsimp only);exact (by have h1:=HCL3.out _ (Only.of_below hbW);rw [←HNA.out] at h1;exact ⟨h1.1,h1.2,HB1.out _ hbW⟩))
   clear hK K hHeld
   have hHeld:=hHeldN
   clear hHeldN
   (try simp only [Act.put,List.setIfInBounds_toArray,List.set_cons_zero,List.set_cons_succ])
   refine RegE.stepL (i:=11) rfl (by decide) (by kernel_rfl) (fun K hK=>?_)
   go_simp
   go_at_call 134
   refine HTK.out.mono ?_
   rintro e w6 ⟨A6,c6,rfl,hR6,hb6⟩
   have hbX:Below w3.heap.size w3 w6:=hbW.trans (hb6.mono hbW.size)
   have hO6:Only (fun q=>q=bv) w3 w6:=Only.of_below hbX
   have hsc:=polyOk_scl (k:=m) HPA3.out.2 i0 i1
   have HVA:=hid (show Calls _ _ _ _ _ from vaC (rr:=rr) (c3:=c6) HM3.out al hbX hR6 hbW.size (by have:=(polyOk_size hsc).2.2;omega) (by have:=(totT_valid hsc).2;omega) (by rw [HRV3.out,limT_scl HPA3.out.2 i0 i1]))
   generalize (sclT m za).length=n6 at *
   refine hK.out _ _ ?Sa11 (fun hHeldN=>?_)
   case Sa11=>((try dsimp only);exact (by have h1:=HCL3.out _ hO6;rw [←HNA.out] at h1;exact ⟨h1.1,h1.2,HB1.out _ hbX⟩))
   clear hK K hHeld
   have hHeld:=hHeldN
   clear hHeldN
   (try simp only [Act.put,List.setIfInBounds_toArray,List.set_cons_zero,List.set_cons_succ])
   refine RegE.stepL (i:=12) rfl (by decide) (by kernel_rfl) (fun K hK=>?_)
   go_simp
   go_at_call 235
   refine HVA.out.mono ?_
   rintro e w4 ⟨A3,n3,cp3,rfl,hEnd,hO4,hC4⟩
   refine hK.out _ _ ?Sa12 (fun hHeldN=>?_)
   case Sa12=>((try dsimp only);exact (by have h1:=HCL3.out _ (hO6.trans hO4);rw [←HNA.out] at h1;exact ⟨h1.1,h1.2,hC4⟩))
   clear hK K hHeld
   have hHeld:=hHeldN
   clear hHeldN
   (try simp only [Act.put,List.setIfInBounds_toArray,List.set_cons_zero,List.set_cons_succ])
   obtain ⟨⟨k0,k1,q0,q1'⟩,⟨y0,y1⟩,HE2⟩:=hEnd
   refine RegE.lastL rfl (by kernel_rfl) (by kernel_rfl) (fun K hK=>?_)
   go_simp
   refine hK.out _ _ ?_
   clear hK K
   clear hO6 hO4 hC4 hR5 hb5 hbW hck hR6 hb6 hbX hsc
   have HE3:=hid HE2
   clear HE2
   go_wp2
   refine bodyPost_ret (v:=poV u A3 n3 cp3) (by simp [results,Tryz.results176,go_sem,y0,y1]) rfl ?_
   exact HE3.out
 ·have HB:=hid (pvAC_bad HRES.out hc rfl)
  have hc1:(c' != 0)=true:=by simpa using hc
  have hD:=deadP (S:=S) (rr:=rr) HS1.out (HE.out.only.trans HO1.out) (by rw [HRR.out,HB.out]) u0 u1 al (only_cells HE.out.rb HO1.out (by omega))
  obtain ⟨⟨k0,k1,q0,q1⟩,⟨y0,y1⟩,HE2⟩:=hD
  have HE3:=hid HE2
  clear HE2 HS1 HO1 HEN HRES HALL HLS hl hc
  go_wp2
  refine bodyPost_ret (v:=poV u none 0 0) (by simp [results,Tryz.results176,go_sem,y0,y1]) rfl ?_
  exact HE3.out
def pickP (pi:Nat):Res (List (List Term'))→Res (List Term')
 | .err e=>.err e
 | .ok ws s2=>.ok (ws.getD pi []) s2
def LoopP (u:Int) (P:List Fn) (f:Nat) (outs:Es) (R:Res (List (List Term'))) (q:Nat) (zs:List (List Term')) (s' c':Int):Prop:=
 (c'=0→∃ t1:Nat,s'=t1∧t1≤3000∧3001≤t1+f∧R=pvLoop (pv u P f) outs q zs t1)∧(c'≠0→R=.err c')
theorem LoopP.step {u:Int} {P:List Fn} {f:Nat} {outs:Es} {R:Res (List (List Term'))} {q:Nat} {zs zs':List (List Term')} {s s' c':Int} (h:LoopP u P f outs R (q+1) zs s 0) (hr:ResIs (pvAC u P f 0 outs zs s.toNat) zs' s' c'):LoopP u P f outs R q zs' s' c':=by
 obtain ⟨t0,rfl,a1,a2,a3⟩:=h.1 rfl
 constructor
 ·intro hc
  obtain ⟨_,t1,rfl,h1,h2,h3⟩:=pvAC_next hr hc
  simp only [Int.toNat_natCast] at h1 h2 h3
  refine ⟨t1,rfl,h2 a1,by omega, ?_⟩
  rw [a3]
  simp only [pvLoop]
  rw [h3]
 ·intro hc
  have hb:=pvAC_bad hr hc rfl
  simp only [Int.toNat_natCast] at hb
  rw [a3]
  simp only [pvLoop]
  rw [hb]
theorem LoopP.now {u:Int} {P:List Fn} {f:Nat} {outs:Es} {R:Res (List (List Term'))} {q:Nat} {zs:List (List Term')} {s c:Int} (h:LoopP u P f outs R q zs s c):c=0→s=(s.toNat:Int)∧s.toNat≤3000∧3001≤s.toNat+f:=fun hc=>by
 obtain ⟨t,rfl,h1,h2,_⟩:=h.1 hc
 simp only [Int.toNat_natCast]
 exact ⟨trivial,h1,h2⟩
theorem loopEndP {w wr:World} {S:Nat→Prop} {bv cp pi q f:Nat} {u:Int} {PA:Option Addr} {pcap:Nat} {A':Option Addr} {zs:List (List Term')} {ts:List Term'} {s' c':Int} {P:List Fn} {outs:Es} {R:Res (List (List Term'))} {rr:Res (List Term')} (hO:Only (fun q=>q=bv) w wr) (hS:Cells wr bv 168 (hdP u P PA pcap++[.int .i64 s',.int .i64 c'])) (hp:PAt wr (privS S (w.heap.size+1)) A' ts) (hok:polyOk u ts=true) (hts:zs.getD pi []=ts)
  (hL:LoopP u P f outs R q zs s' c') (hq:c'=0→q=0) (hrr:rr=pickP pi R) (al:bv<w.heap.size) (hb:Cells wr (w.heap.size+1) 86 [.int .i64 0,.slice none 0 0]):LetEnd S bv u P PA pcap rr w wr A' ts.length cp:=by
 refine polyEnd hp hok hS hO ?_ al hb
 by_cases hc:c'=0
 ·obtain ⟨t1,rfl,_,_,h3⟩:=hL.1 hc
  rw [hq hc] at h3
  simp only [pvLoop] at h3
  rw [hrr,h3]
  exact ⟨hts.symm,rfl,hc⟩
 ·rw [hrr,hL.2 hc];rfl
theorem poly_loop (P:List Fn) (m pi C:Nat) (ks:Es) (u:Int) (f:Nat) (IH:PolyC P u f) (env:List (List Term')) (t:Nat) (fn:Int) (K:Option Addr) (cap B:Nat) (S:Nat→Prop) (bv:Nat) (A PA:Option Addr) (ecap pcap:Nat) (w:World) (hI:EvIn w B bv 1 P PA pcap) (hS:SIn w B S bv u) (hst:Cells w bv 168 (hdP u P PA pcap++[.int .i64 t,.int .i64 0])) (hN:NdInP w B S u P fn ⟨11,m,pi,C,ks⟩ K cap A env ecap) (g:Fn) (y:Nd) (hC:CallIn P m pi C ks 11 g y) (hs:t<3000) (hf:3001≤t+(f+1)) :
  Calls Tryz.prog 176 #[.pointer (some ⟨bv,0,none⟩),exV 11 m pi C K ks.len cap,.slice A env.length ecap] w (PPost S bv u 168 (hdP u P PA pcap) (pv u P (f+1) ⟨11,m,pi,C,ks⟩ env t) w):=by
 have HEV:Hid (pv u P (f+1) ⟨11,m,pi,C,ks⟩ env t=match pvAll (pv u P f) env ks (t+1) with | .err e=>.err e | .ok zs s1=>pickP pi (pvLoop (pv u P f) g.outs C zs s1)):=by
  show _=_
  rw [pv,if_neg (by omega),if_neg (by show ¬ (11:Int)=1;omega),if_neg (by show ¬ (11:Int)=2;omega),if_neg (by show ¬ (11:Int)=8;omega),if_neg (by show ¬ (11:Int)=9;omega)]
  cases pvAll (pv u P f) env ks (t+1) with
  | err e=>rfl
  | ok zs s1=>simp only;rw [if_neg (by omega),if_pos trivial,show P[(m:Int).toNat]? = some g from hC.fn];simp only [Int.toNat_natCast];cases pvLoop (pv u P f) g.outs C zs s1<;>rfl
 obtain ⟨rr,hrr⟩:∃ rr,rr=pv u P (f+1) ⟨11,m,pi,C,ks⟩ env t:=⟨_,rfl⟩
 rw [←hrr]
 have HRR:=hid (hrr.trans HEV.out)
 clear HEV hrr
 have HALL:=hid (polyAll_of P u f IH)
 have al:=hI.lt
 have hB:=hI.blow
 have u0:=hS.u0
 have u1:=hS.u1
 have a1:w.cell? ⟨bv,1,none⟩=some (.int .i64 u):=by rw [hst.cell];rfl
 have a2:w.cell? ⟨bv,2,none⟩=some (.int .i64 t):=by rw [hst.cell];rfl
 have a3:w.cell? ⟨bv,3,none⟩=some (.int .i64 0):=by rw [hst.cell];rfl
 have z2:w.frozen? ⟨bv,2,none⟩=false:=hst.frozen _
 have e1:((t:Int)==3000)=false:=by simp;omega
 have hE:=pvStep hI hS hst 11 m pi C K ks.len cap
 have hoS:Only S w (pvW w bv t 11 m pi C K ks.len cap):=hE.only.sub fun q e=>by rw [e];exact hS.bv
 have HLS:=hid (LsInP.of (g:=w.heap.size+1) hN hoS (only_below hE.only hB al) (by omega) (by show (11:Int)≠9;omega))
 have HE:=hid hE
 have HN:=hid hN
 have HSI:=hid hS
 have HIH:=hid IH
 have HC:=hid hC
 clear hC
 clear hI hst hE hN hS IH hoS
 go_enter Tryz.func176,Tryz.ntmps176
 go_wp2_with fail
 refine (HALL.out ks env ((t+1:Nat):Int) (t+1) 0 fn K cap B (privS S (w.heap.size+1)) bv A PA ecap pcap _ HE.out.ev HE.out.si HE.out.st (fun _=>⟨rfl,by omega,by omega⟩) HLS.out).mono ?_;rintro e w1 ⟨A1,cp,tss,s',c',rfl,hl,hcp,hcm,hEn,hS1,hO1,hres⟩
 have c3:w1.cell? ⟨bv,3,none⟩=some (.int .i64 c'):=by rw [hS1.cell];rfl
 have c1:w1.cell? ⟨bv,1,none⟩=some (.int .i64 u):=by rw [hS1.cell];rfl
 have cl:=hS1.lt
 have HS1:=hid hS1
 have HO1:=hid hO1
 have HEN:=hid hEn
 have HL:=hid hl
 have HRES:=hid hres
 clear hS1 hO1 hEn hres
 by_cases hc:c'=0
 ·have hRES:=pvAC_next HRES.out hc
  subst hc
  obtain ⟨t1,hs1,_,ht1,hev⟩:=hRES.2
  subst hs1
  have HEV:=hid hev
  have HT1:Hid (t1≤3000):=ht1 (by omega)
  have HT2:Hid (t<t1):=by show _<_;omega
  clear hRES hev ht1 HRES
  go_wp2_with fail
  refine (minusOne_any u w1 u0 u1).mono ?_;rintro e w2 ⟨Am,cm,rfl,hp2,hb2⟩
  have HM:=hid (opSt (cm:=cm) HE.out al HS1.out HO1.out HEN.out hp2 hb2)
  clear hp2 hb2 HALL HLS HS1 HO1 HEN c1 c3 cl
  obtain ⟨bP,oP,KF,cF,bk,ok,rfl,hbP,g2,hcF,hmF,rfl,hKo,hEy⟩:=outAt HM.out.ev.prog HC.out.fn HC.out.out
  have hml:m<P.length:=(List.getElem?_eq_some_iff.1 HC.out.fn).1
  have hml2:(m:Int)<(P.length:Int):=by omega
  have hpl:pi<ks.len:=by have:=Es.get?_lt HC.out.out;have:=(HC.out.loop rfl).2.2;omega
  have hpl2:(pi:Int)<(ks.len:Int):=by omega
  have hC8:C≤8:=by have:=(HC.out.loop rfl).2.1;omega
  have hol:g.outs.len=ks.len:=(HC.out.loop rfl).2.2
  have hcpp:cp≤9223372036854775807:=by unfold maxLen at hcm;omega
  obtain ⟨R,hR⟩:∃ R,R=pvLoop (pv u P f) g.outs C tss t1:=⟨_,rfl⟩
  have HRW:Hid (rr=pickP pi R):=by show _=_;rw [HRR.out,HEV.out,hR]
  have HLR:Hid (LoopP u P f g.outs R (C - 0) tss t1 0):=⟨fun _=>⟨t1,rfl,HT1.out,by have:=HT2.out;omega,hR⟩,fun h=>absurd rfl h⟩
  have HALL:=hid (polyAll_of P u f HIH.out)
  have HOL:=hid hol
  have HG2:=hid g2
  have HKO:=hid hKo
  have x0:(w2.alloc (.cells #[.int .i64 u,.slice Am 1 cm] 86)).cell? ⟨w.heap.size,0,none⟩=some (.int .i64 11):=by rw [HM.out.bx.cell];rfl
  have hWb:w2.heap.size+1=(w2.alloc (.cells #[.int .i64 u,.slice Am 1 cm] 86)).heap.size:=by simp
  have HLT:=hid hl
  clear hR HEV HRR hEy hol g2 hKo
  go_upto_region 26 with fail
  change Code.wp _ _ _ _ (w2.alloc (.cells #[.int .i64 u,.slice Am 1 cm] 86))
  generalize w2.alloc (.cells #[.int .i64 u,.slice Am 1 cm] 86)=W at *
  clear x0 hWb
  have hbvW:bv<W.heap.size:=HM.out.ev.lt
  have hWl:w.heap.size<W.heap.size:=HM.out.bx.lt
  have hg9:w.heap.size≠bv:=by omega
  have hbPW:bP<W.heap.size:=by omega
  have hbP9:bP≠bv:=by omega
  go_wp2
  go_loopw [8,10] (fun kd i wr=>∃ (q:Nat) (A1:Option Addr) (cp:Nat) (zs:List (List Term')) (s' c':Int),i=.int .i64 (q:Int)∧kd=.slice A1 ks.len cp∧q≤C∧ks.len≤cp∧cp≤maxLen∧Hid (zs.length=ks.len)∧Hid (PEnv wr (privS S (w.heap.size+1)) u A1 zs)∧Hid (Cells wr bv 168 (hdP u P (some ⟨bP,oP,none⟩) pcap++[.int .i64 s',.int .i64 c']))∧Hid (Only (fun q=>q=bv) W wr)∧Hid (LoopP u P f g.outs R (C - q) zs s' c')) (fun _ i _=>C - (intOf i).toNat)
  case atStart=>exact ⟨0,A1,cp,tss,t1,0,by go_num,rfl,Nat.zero_le _,hcp,hcm,HLT,HM.out.env,HM.out.st,Only.refl _ _,HLR⟩
  case round=>
   clear HLT HLR hcp hcm hcpp hl HL
   obtain ⟨q,A1,cp,zs,s',c',rfl,rfl,hq,hcp,hcm,HL,HE1,HS1,HO3,HLR⟩:=hrel
   have hcpp:cp≤9223372036854775807:=by unfold maxLen at hcm;omega
   have HX1:=hid (only_cells HM.out.bx HO3.out (by omega))
   have HR1:=hid (only_cells HM.out.rb HO3.out (by omega))
   have c3:wr.cell? ⟨bv,3,none⟩=some (.int .i64 c'):=by rw [HS1.out.cell];rfl
   have c0:wr.cell? ⟨bv,0,none⟩=some (.slice (some ⟨bP,oP,none⟩) P.length pcap):=by rw [HS1.out.cell];rfl
   have x1:wr.cell? ⟨w.heap.size,1,none⟩=some (.int .i64 m):=by rw [HX1.out.cell];rfl
   have x2:wr.cell? ⟨w.heap.size,2,none⟩=some (.int .i64 pi):=by rw [HX1.out.cell];rfl
   have x3:wr.cell? ⟨w.heap.size,3,none⟩=some (.int .i64 C):=by rw [HX1.out.cell];rfl
   have clr:bv<wr.heap.size:=HS1.out.lt
   have xlr:w.heap.size<wr.heap.size:=HX1.out.lt
   obtain ⟨ts,hts⟩:∃ ts,zs[pi]? = some ts:=⟨zs[pi]'(by rw [HL.out];exact hpl),List.getElem?_eq_getElem _⟩
   have htd:zs.getD pi []=ts:=by simp [List.getD,hts]
   obtain ⟨b1,o1,Az,cz,rfl,hb1,d0,d1,hPz,hoz⟩:=HE1.out.get hts
   have HTD:=hid htd
   have HPZ:=hid (And.intro hPz hoz)
   clear hts htd hPz hoz
   by_cases hlt:q<C
   ·have hltI:(q:Int)<(C:Int):=by omega
    by_cases hc:c'=0
    ·subst hc
     have g2:wr.cell? ⟨bP,oP+m*3+2,none⟩=some (.slice (some ⟨bk,ok,none⟩) g.outs.len cF):=(HO3.out.cell (a:=⟨bP,_,none⟩) hbPW hbP9).trans HG2.out
     rw [HOL.out] at g2
     have hbPr:bP<wr.heap.size:=by have:=HO3.out.size;omega
     have hd:Only (fun q=>q=bv) wr wr.drew:=(Only.refl _ wr).drewN 1
     have hI3:=HM.out.ev.only (HO3.out.trans hd)
     have hls:LsInP wr.drew B (privS S (w.heap.size+1)) u P m g.outs (some ⟨bk,ok,none⟩) cF (some ⟨b1,o1,none⟩) zs cp:=⟨HKO.out.below (only_below (HO3.out.trans hd) hB hbvW),hcF,hmF,HE1.out.only ((Only.refl _ wr).drewN 1),by rw [HL.out];exact hcp,hcm,by rw [HL.out];have:=HC.out.p12;have:=HC.out.dep;omega,HC.out.size,fun j z hz=>by rw [HL.out];exact (HC.out.each j z hz).1,by omega,by omega⟩
     have hcall:=HALL.out g.outs zs s' s'.toNat 0 m (some ⟨bk,ok,none⟩) cF B (privS S (w.heap.size+1)) bv (some ⟨b1,o1,none⟩) (some ⟨bP,oP,none⟩) cp pcap wr.drew hI3 (HM.out.si.mono (HO3.out.trans hd).size) (HS1.out.drewN 1) HLR.out.now hls
     rw [HL.out,HOL.out] at hcall
     have HCALL:=hid hcall
     have HLR1:Hid (LoopP u P f g.outs R (C - (q+1)+1) zs s' 0):=by have:=HLR.out;rwa [show C - q=C - (q+1)+1 by omega] at this
     clear hcall hls hI3 hd HLR HE1 d0 d1 HPZ HTD
     go_wp2_with fail
     go_still_tail 12,(by kernel_rfl)
     change wpList _ _ _ _ _ wr.drew
     go_wp2_with fail
     refine HCALL.out.mono ?_;rintro e w4 ⟨A3,cp3,zs3,s3,c3',rfl,hl3,hcp3,hcm3,hE3,hS3,hO4,hres3⟩
     have HO5:Hid (Only (fun q=>q=bv) W w4):=(HO3.out.drewN 1).trans hO4
     have HL5:=hid hl3
     have HE5:=hid hE3
     have HS5:=hid hS3
     have HLR5:=hid (HLR1.out.step hres3)
     clear hl3 hE3 hS3 hO4 hres3 HX1 HR1 HS1 HO3 c0 x1 x2 x3 g2 HCALL HL HLR1
     go_wp2
     go_roundw
     case rel=>exact ⟨q+1,A3,cp3,zs3,s3,c3',by go_num,rfl,by omega,hcp3,hcm3,HL5,HE5,HS5,HO5,HLR5⟩
     case measure=>simp [intOf];omega
    ·have hD:=loopEndP (cp:=cz) (HM.out.only.trans HO3.out) HS1.out HPZ.out.1 HPZ.out.2 HTD.out HLR.out (fun h=>absurd h hc) HRW.out al HR1.out
     obtain ⟨⟨k0,k1,q0,q1⟩,⟨y0,y1⟩,HE2⟩:=hD
     have HE3:=hid HE2
     have hc1:(c'==0)=false:=by simpa using hc
     clear HE2 hc
     go_wp2
     refine bodyPost_ret (v:=poV u Az ts.length cz) (by simp [results,Tryz.results176,go_sem,y0,y1]) rfl ?_
     exact HE3.out
   ·obtain rfl:q=C:=by omega
    have hD:=loopEndP (cp:=cz) (HM.out.only.trans HO3.out) HS1.out HPZ.out.1 HPZ.out.2 HTD.out HLR.out (fun _=>by omega) HRW.out al HR1.out
    obtain ⟨⟨k0,k1,q0,q1⟩,⟨y0,y1⟩,HE2⟩:=hD
    have HE3:=hid HE2
    clear HE2
    go_wp2
    refine bodyPost_ret (v:=poV u Az ts.length cz) (by simp [results,Tryz.results176,go_sem,y0,y1]) rfl ?_
    exact HE3.out
 ·have HB:=hid (pvAC_bad HRES.out hc rfl)
  have hc1:(c' != 0)=true:=by simpa using hc
  have hD:=deadP (S:=S) (rr:=rr) HS1.out (HE.out.only.trans HO1.out) (by rw [HRR.out,HB.out]) u0 u1 al (only_cells HE.out.rb HO1.out (by omega))
  obtain ⟨⟨k0,k1,q0,q1⟩,⟨y0,y1⟩,HE2⟩:=hD
  have HE3:=hid HE2
  clear HE2 HS1 HO1 HEN HRES HALL HLS hl hc
  go_wp2
  refine bodyPost_ret (v:=poV u none 0 0) (by simp [results,Tryz.results176,go_sem,y0,y1]) rfl ?_
  exact HE3.out
theorem poly_any (P:List Fn) (u:Int):∀ f:Nat,PolyC P u f:=by
 intro f
 induction f with
 | zero=>
  intro x env s t c0 fn K cap B S bv A PA ecap pcap w hI hS hst hf hN
  have hc:c0≠0:=fun h=>by have:=hf h;omega
  have hv:=poly_dead P x env s c0 u K cap B bv S A PA ecap pcap w hI hS hst hc
  unfold pvC
  rw [if_neg hc]
  exact hv
 | succ f IH=>
  intro x env s t c0 fn K cap B S bv A PA ecap pcap w hI hS hst hf hN
  by_cases hc:c0=0
  ·obtain ⟨rfl,ht,hft⟩:=hf hc
   subst hc
   unfold pvC
   rw [if_pos rfl]
   by_cases hs:t<3000
   ·have hk:=formed_kinds hN.form
    have hform:=hN.form
    obtain ⟨xk,xn,xp,xc,xks⟩:=x
    simp only at hk hform hN ⊢
    by_cases k1:xk=1
    ·subst k1
     have h1:=hform
     unfold formed at h1
     rw [Bool.and_eq_true] at h1
     simp only at h1
     rw [nodeOk_leaf1] at h1
     simp only [Bool.and_eq_true] at h1
     have hb:=inR_true.1 h1.1.2.2
     have hv:=poly_num P ⟨1,xn,xp,xc,xks⟩ env t u K cap B bv S A PA ecap pcap w hI hS hst rfl hs hb.1 hb.2
     rw [pv,if_neg (by omega),if_pos rfl]
     exact hv
    by_cases k2:xk=2
    ·subst k2
     have h1:=hform
     unfold formed at h1
     rw [Bool.and_eq_true] at h1
     simp only at h1
     rw [nodeOk_leaf2] at h1
     simp only [Bool.and_eq_true] at h1
     have hb:=inR_true.1 h1.1.2.2
     obtain ⟨j,rfl⟩:=Int.eq_ofNat_of_zero_le hb.1
     have hj:j<env.length:=by omega
     have hem:=hN.em
     have hel:=hN.el
     have hv:=poly_var P ⟨2,j,xp,xc,xks⟩ env t u K cap B bv S A PA ecap pcap w hI hS hst hN.envA (by unfold maxLen at hem;omega) j env[j] rfl rfl hs (List.getElem?_eq_getElem hj)
     rw [pv,if_neg (by omega),if_neg (by show ¬ (2:Int)=1;omega),if_pos rfl]
     have e:env.getD (j:Int).toNat []=env[j]:=by simp [List.getD,hj]
     simp only
     rw [e]
     exact hv
    by_cases k8:xk=8
    ·exact poly_if P _ u f IH env t fn K cap B S bv A PA ecap pcap w hI hS hst hN k8 hs hft
    by_cases k9:xk=9
    ·exact poly_let P _ u f IH env t fn K cap B S bv A PA ecap pcap w hI hS hst hN k9 hs hft
    by_cases k3:xk=3
    ·exact poly_op3 P _ u f IH env t fn K cap B S bv A PA ecap pcap w hI hS hst hN k3 hs hft
    by_cases k4:xk=4
    ·exact poly_op4 P _ u f IH env t fn K cap B S bv A PA ecap pcap w hI hS hst hN k4 hs hft
    by_cases k5:xk=5
    ·exact poly_op5 P _ u f IH env t fn K cap B S bv A PA ecap pcap w hI hS hst hN k5 hs hft
    by_cases k6:xk=6
    ·exact poly_op6 P _ u f IH env t fn K cap B S bv A PA ecap pcap w hI hS hst hN k6 hs hft
    by_cases k7:xk=7
    ·exact poly_op7 P _ u f IH env t fn K cap B S bv A PA ecap pcap w hI hS hst hN k7 hs hft
    obtain ⟨m,pi,g,y,hn,hp,_,hC⟩:=callIn hI.ok hform (by omega) hN.f1
    subst hn hp
    by_cases k10:xk=10
    ·subst k10
     exact poly_call P m pi xc xks u f IH env t fn K cap B S bv A PA ecap pcap w hI hS hst hN g y hC hs hft
    ·obtain rfl:xk=11:=by omega
     obtain ⟨C,rfl⟩:=Int.eq_ofNat_of_zero_le (hC.loop rfl).1
     exact poly_loop P m pi C xks u f IH env t fn K cap B S bv A PA ecap pcap w hI hS hst hN g y hC hs hft
   ·obtain rfl:t=3000:=by omega
    have hv:=poly_full P x env u K cap B bv S A PA ecap pcap w hI hS hst
    rw [pv,if_pos (by omega)]
    exact hv
  ·have hv:=poly_dead P x env s c0 u K cap B bv S A PA ecap pcap w hI hS hst hc
   unfold pvC
   rw [if_neg hc]
   exact hv
end
section
open Go.RowKit Plain
theorem oneTermAt {w:World} {lo be oe bt:Nat} {E:List Int} {c:Int} {cap:Nat} (hbe:be<w.heap.size) (he:∀ j x,E[j]? = some x→w.cell? ⟨be,oe+j,none⟩=some (.int .i64 x)∧w.frozen? ⟨be,oe+j,none⟩=false) (ht:Cells w bt 173 [.slice (some ⟨be,oe,none⟩) E.length cap,.int .i64 c]) (h1:lo≤be) (h2:lo≤bt) (hne:be≠bt):RT w lo w.heap.size (some ⟨bt,0,none⟩) [(E,c)]:=by
 have l2:=ht.lt
 refine ⟨by omega,Nat.le_refl _,fun _=>⟨bt,0,fun _=>be,rfl,h2,l2,fun i t hi=>?_,fun i j ti tj hij hi hj _ _=>?_⟩,fun _ _ h hb=>h.keep hb⟩
 ·cases i with
  | zero=>
   simp only [List.getElem?_cons_zero,Option.some.injEq] at hi
   subst hi
   exact ⟨_,cap,by rw [ht.cell];rfl,by rw [ht.cell];rfl,ht.frozen _,fun _=>⟨oe,rfl,h1,hbe,hne,fun j x hx=>he j x hx⟩⟩
  | succ i=>simp at hi
 ·have a:=(List.getElem?_eq_some_iff.1 hi).1
  have b:=(List.getElem?_eq_some_iff.1 hj).1
  simp at a b
  omega
theorem oneTerm {w:World} {lo be bt:Nat} {E:List Int} {c:Int} {cap:Nat} (he:Cells w be 2 (E.map (Value.int .i64))) (ht:Cells w bt 173 [.slice (some ⟨be,0,none⟩) E.length cap,.int .i64 c]) (h1:lo≤be) (h2:lo≤bt) (hne:be≠bt):RT w lo w.heap.size (some ⟨bt,0,none⟩) [(E,c)]:=
 oneTermAt he.lt (fun j x hx=>⟨by rw [Nat.zero_add,he.cell,List.getElem?_map,hx];rfl,he.frozen _⟩) ht h1 h2 hne
theorem unkE_set {n j:Nat} {w:World} {be oe:Nat} (hj:j<n) (he:∀ j x,(zeroE n)[j]? = some x→w.cell? ⟨be,oe+j,none⟩=some (.int .i64 x)∧w.frozen? ⟨be,oe+j,none⟩=false) (i:Nat) (x:Int) (hx:(unkE n j)[i]? = some x) :
  (w.setCell ⟨be,oe+j,none⟩ (.int .i64 1)).cell? ⟨be,oe+i,none⟩=some (.int .i64 x)∧(w.setCell ⟨be,oe+j,none⟩ (.int .i64 1)).frozen? ⟨be,oe+i,none⟩=false:=by
 have hz:∀ k,k<n→(zeroE n)[k]? = some 0:=fun k hk=>by unfold zeroE;simp [hk]
 have hi:i<n:=by have:=(List.getElem?_eq_some_iff.1 hx).1;rw [unkE_length] at this;exact this
 have hf:(w.setCell ⟨be,oe+j,none⟩ (.int .i64 1)).frozen? ⟨be,oe+i,none⟩=false:=by rw [World.frozen?_setCell];exact (he i 0 (hz i hi)).2
 refine ⟨?_,hf⟩
 by_cases e:i=j
 ·subst e
  have h1:x=1:=by unfold unkE zeroE at hx;simp [hi] at hx;exact hx.symm
  rw [h1]
  exact World.cell?_setCell_same _ _ _ (he i 0 (hz i hi)).1
 ·have h0:x=0:=by
   unfold unkE zeroE at hx
   rw [List.getElem?_set_ne (Ne.symm e)] at hx
   simp [hi] at hx
   exact hx.symm
  rw [h0,World.cell?_setCell_other _ _ _ _ (fun h=>e (by injection h with _ h;omega))]
  exact (he i 0 (hz i hi)).1
theorem unknowns_any (u:Int) (S:Nat→Prop) (w:World) (hS:∀ q,S q→q<w.heap.size) (h0:0≤u) (h1:u≤12) :
  Calls Tryz.prog 110 #[.int .i64 u] w fun e w'=>∃ A cp,e=.returned (.slice A u.toNat cp)∧u.toNat≤cp∧cp≤maxLen∧PEnv w' S u A (unkL u u.toNat)∧Below w.heap.size w w':=by
 obtain ⟨i0,hi,hz0,hz1,hz2⟩:=info_parts Tryz.infoPo
 obtain ⟨un,rfl⟩:∃ m:Nat,u=m:=⟨u.toNat,by omega⟩
 have hun:un≤12:=by omega
 have hmk:=run_make_row' (P:=Tryz.prog) 28 2 (.int .i64 0) 8 Tryz.underlying28 Tryz.infoI rfl .i64 .i64 un (by omega) (by omega)
 obtain ⟨Z,hZ⟩:∃ Z,Z=madeCells #[Value.int .i64 0] un:=⟨_,rfl⟩
 rw [←hZ] at hmk
 have HZ:Hid (Z=((zeroE un).map (Value.int .i64)).toArray):=by show _=_;rw [hZ,madeCells_one,zeroE_map]
 have HSS:=hid hS
 clear hZ hS
 go_enter Tryz.func110,Tryz.ntmps110
 go_wp2
 go_loopw [3,8] (fun o_ i wr=>∃ (j g:Nat),i=.int .i64 (j:Int)∧j≤un∧Hid (o_.ownBlock=some g∧w.heap.size≤g∧g<wr.heap.size)∧Hid (PRow wr w.heap.size S un o_ (unkL un j))∧Hid (Below w.heap.size w wr)) (fun _ i _=>un - (intOf i).toNat)
 case atStart=>exact ⟨0,w.heap.size,by go_num,Nat.zero_le _,⟨rfl,Nat.le_refl _,by simp⟩,PRow.start w _ _,by show Below _ _ _;go_grown⟩
 case round=>
  obtain ⟨j,g,rfl,hj,hG,HR,HBW⟩:=hrel
  by_cases hlt:j<un
  ·have hjl:(j:Int)<(un:Int):=by omega
   have hbe:Cells (wr.alloc (.cells Z 2)) wr.heap.size 2 ((zeroE un).map (Value.int .i64)):=by rw [HZ.out];exact Cells.new wr _ _
   have hsz1:(wr.alloc (.cells Z 2)).heap.size=wr.heap.size+1:=by simp
   have hg1:Below wr.heap.size wr (wr.alloc (.cells Z 2)):=by go_grown
   go_upto_region 6 with fail
   change Code.wp _ _ _ _ (wr.alloc (.cells Z 2))
   generalize wr.alloc (.cells Z 2)=Wa at *
   have hze:(zeroE un)[j]? = some 0:=by unfold zeroE;simp [hlt]
   have e0:Wa.cell? ⟨wr.heap.size,j,none⟩=some (.int .i64 0):=by rw [hbe.cell,List.getElem?_map,hze];rfl
   have ef:Wa.frozen? ⟨wr.heap.size,j,none⟩=false:=hbe.frozen _
   have hbe2:Cells (Wa.setCell ⟨wr.heap.size,j,none⟩ (.int .i64 1)) wr.heap.size 2 ((unkE un j).map (Value.int .i64)):=by
    have:=hbe.set_ j (.int .i64 1)
    rw [←List.map_set] at this
    exact this
   have hg2:Below wr.heap.size wr (Wa.setCell ⟨wr.heap.size,j,none⟩ (.int .i64 1)):=hg1.setCell (p:=⟨wr.heap.size,j,none⟩) (Nat.le_refl _) _
   have hsz2:(Wa.setCell ⟨wr.heap.size,j,none⟩ (.int .i64 1)).heap.size=Wa.heap.size:=by simp [World.setCell]
   have hjun:j<un:=hlt
   clear hbe hg1
   go_upto_region 7 with fail
   change Code.wp _ _ _ _ (Wa.setCell ⟨wr.heap.size,j,none⟩ (.int .i64 1))
   generalize Wa.setCell ⟨wr.heap.size,j,none⟩ (.int .i64 1)=Wb at *
   have hszb:Wb.heap.size=wr.heap.size+1:=by omega
   clear e0 ef hsz2 hsz1
   obtain ⟨W3,hW3⟩:∃ W3,W3=Wb.alloc (.cells #[.slice (some ⟨wr.heap.size,0,none⟩) un un,.int .i64 1] 173):=⟨_,rfl⟩
   have hg3:Below Wb.heap.size Wb W3:=by rw [hW3];go_grown
   have hC3:Cells W3 wr.heap.size 2 ((unkE un j).map (Value.int .i64)):=hbe2.next hg3
   have hT3:Cells W3 (wr.heap.size+1) 173 [.slice (some ⟨wr.heap.size,0,none⟩) un un,.int .i64 1]:=by
    have:=Cells.new Wb 173 [.slice (some ⟨wr.heap.size,0,none⟩) un un,.int .i64 1]
    rw [←hszb,hW3];exact this
   have hRT:RT W3 wr.heap.size W3.heap.size (some ⟨wr.heap.size+1,0,none⟩) (unkT un j):=by
    show RT _ _ _ _ [(unkE (un:Int).toNat j,1)]
    exact oneTerm (cap:=un) hC3 (by rw [unkE_length];exact hT3) (Nat.le_refl _) (by omega) (by omega)
   have hok:polyOk un (unkT un j)=true:=unkT_ok h0 h1
   have hb3:Below wr.heap.size wr W3:=hg2.trans (hg3.mono (by omega))
   have hPA:PAt W3 (privS S g) (some ⟨wr.heap.size+1,0,none⟩) (unkT un j):=PAt.of hRT (polyOk_totT hok) (fun q e=>by
    rcases e with e | e
    ·have:=HSS.out q e;have:=HBW.out.size;omega
    ·have:=hG.out.2.2;omega)
   have HPA:=hid (And.intro hPA hok)
   have HB3:=hid hb3
   obtain ⟨ps,hG1,hps,hoks,hkp⟩:=HR.out
   have hpl:ps.length=j:=by have:=congrArg List.length hps;rw [List.length_map,unkL_length] at this;exact this
   have HG1:=hid hG1
   have HKP:=hid hkp
   have HOKS:=hid hoks
   have HPS:=hid hps
   obtain ⟨W1',hW1'⟩:∃ W,W=W3.alloc (.cells (poD un (unkT un j,some ⟨Wb.heap.size,0,none⟩,1)).toArray 86):=⟨_,rfl⟩
   have hb2:Below W3.heap.size W3 W1':=by rw [hW1'];go_grown
   have hC2:Cells W1' W3.heap.size 86 (poD un (unkT un j,some ⟨Wb.heap.size,0,none⟩,1)):=by rw [hW1'];exact Cells.new _ _ _
   have HOW:=hid ((HG1.out.below hb3).below hb2).own
   have HB2:=hid hb2
   have HC2:=hid hC2
   have HW3:=hid hW3
   have HW1':=hid hW1'
   have hs3:W3.heap.size=Wb.heap.size+1:=by rw [hW3];simp
   have HZZ:=hid (And.intro hszb hs3)
   clear hb2 hC2 hW1' hG1 hps hoks hkp HR hPA hRT hb3 hg3 hC3 hT3 hg2 hbe2 hW3 hszb hs3 hok
   go_wp2_with (at_builtin;change wpList _ _ _ _ _ ((Wb.alloc (.cells #[.slice (some ⟨wr.heap.size,0,none⟩) un un,.int .i64 1] 173)).alloc (.cells (poD un (unkT un j,some ⟨Wb.heap.size,0,none⟩,1)).toArray 86));rw [←HW3.out,←HW1'.out];refine wpList_append_own_at _ rfl _ _ 162 rfl w.heap.size 86 i0 (.agg #[.int .i64 0,.slice none 0 0]) 2 32 Tryz.underlying162 hi hz0 hz1 hz2 rfl (by decide) _ _ _ rfl HOW.out ⟨W3.heap.size,0,none⟩ 1 1 (poD un (unkT un j,some ⟨Wb.heap.size,0,none⟩,1)) ?c0 rfl ?c1 ?c2 ?c3 ?c4 ?c5 ?_)
   case c0=>rw [HZZ.out.2];simp [Act.eval]
   case c1=>intro q z hz;rw [addr_add,Nat.zero_add];exact (HC2.out.cell q).trans hz
   case c2=>intro z hz;simp only [poD,List.mem_cons,List.not_mem_nil,or_false] at hz;rcases hz with rfl | rfl<;>rfl
   case c3=>simp only [List.length_map];unfold maxLen;omega
   case c4=>simp only [List.length_map];omega
   case c5=>have:=HB2.out.size;have:=HB3.out.size;have:=HBW.out.size;omega
   intro v2 w2 hown0 hg2 _ hat
   have hown:w2.ownsRow w.heap.size 86 2 v2 ((ps.map (poEl S (un:Int))).length+1) ((ps.map (poEl S (un:Int))).flatMap (·.1)++poD un (unkT un j,some ⟨Wb.heap.size,0,none⟩,1)):=by
    rw [List.length_map,hpl]
    exact hown0
   have hPA:=HPA.out
   rw [←HZZ.out.1] at hPA
   have hgl:=HG1.out.lt hG.out.1
   obtain ⟨hp2,hbl⟩:=PRow.push (p:=(unkT un j,some ⟨Wb.heap.size,0,none⟩,1)) HG1.out (by rw [HPS.out];exact HOKS.out) HKP.out hG.out.1 HB3.out hPA.1 hPA.2 HB2.out hown hg2 hat
   rw [HPS.out,←unkL_succ] at hp2
   have hg3:∃ g3,v2.ownBlock=some g3∧w.heap.size≤g3∧g3<w2.heap.size:=by
    have hs2:=hg2.size
    have hs1:=HB2.out.size
    have hs3:=HB3.out.size
    have hs4:=HBW.out.size
    rcases hat with e | e
    ·exact ⟨g,e.trans hG.out.1,hgl.1,by omega⟩
    ·exact ⟨W1'.heap.size,e,by omega,(World.ownsRow.lt hown _ e).2⟩
   obtain ⟨g3,hg3⟩:=hg3
   have HG3:=hid hg3
   have HP2:=hid hp2
   have HBW2:=hid (HBW.out.trans hbl)
   clear hown hown0 hg2 hat hp2 hbl hg3 HG1 HKP HOKS HPS HOW HC2 HB2 HPA hgl HW1' HW3 HZZ hPA HB3
   go_wp2
   go_roundw
   case rel=>exact ⟨j+1,g3,by go_num,by omega,HG3,HP2,HBW2⟩
   case measure=>simp [intOf];omega
  ·obtain rfl:j=un:=by omega
   obtain ⟨A,cp,rfl,q1,q2,q3⟩:=HR.out.env (fun q e=>HSS.out q e)
   rw [unkL_length] at q1 ⊢
   have HP:Hid (∃ A2 cp2,Ending.returned (.slice A j cp)=.returned (.slice A2 (j:Int).toNat cp2)∧(j:Int).toNat≤cp2∧cp2≤maxLen∧PEnv wr S j A2 (unkL j (j:Int).toNat)∧Below w.heap.size w wr):=⟨A,cp,rfl,q1,q2,q3,HBW.out⟩
   clear q1 q2 q3
   go_wp2
   go_ret
   exact HP.out
end
end Go.Proofs.YtgfkglhelfkpoaaGreat
