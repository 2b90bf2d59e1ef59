/- Texts put together: WPv12. -/
import Derived.Test.YtgfkglhelfkpoaaGreatRPB
import Derived.Test.YtgfkglhelfkpoaaGreatRJ
set_option maxRecDepth 100000
set_option maxHeartbeats 4000000
open Go.Lib (hid)
namespace Go.Proofs.YtgfkglhelfkpoaaGreat
section
open Go.RowKit Plain
theorem addP_bd {u:Int} {a b:List Term'} (h1:polyOk u a=true) (h2:polyOk u b=true):(nfT (a++b)).length≤1048576∧totT (nfT (a++b))≤1048576:=by
 have l1:=(polyOk_size h1).2.2
 have l2:=(polyOk_size h2).2.2
 have:=nf_bd (n:=u.toNat) (B:=240) (L:=a++b) (fun t ht=>(List.mem_append.1 ht).elim (polyOk_len' h1 t) (polyOk_len' h2 t)) (by have:=(polyOk_size h1);omega) (by rw [List.length_append];omega) (by omega)
 omega
def PlC (S:Nat→Prop) (bv:Nat) (u:Int) (P:List Fn) (PA:Option Addr) (pcap:Nat) (rr:Res (List Term')) (w:World) (A0:Option Addr) (n0 c0:Nat) (A1:Option Addr) (n1 c1:Nat) (W:World):Prop:=
 Calls Tryz.prog 133 #[.agg #[.int .i64 u,.slice A0 n0 c0],.agg #[.int .i64 u,.slice A1 n1 c1]] W fun e w3=>∃ A3 n3 c3,e=.returned (.agg #[.int .i64 u,.slice A3 n3 c3])∧Below W.heap.size W w3∧VaC S bv u P PA pcap rr w w3 A3 n3 c3
theorem plC {w W w0:World} {B:Nat} {S:Nat→Prop} {bv:Nat} {u:Int} {P:List Fn} {PA:Option Addr} {pcap t1:Nat} {k n p c:Int} {K:Option Addr} {len cap:Nat} {A1:Option Addr} {tss:List (List Term')} {bm:Nat} {Am:Option Addr} {cm:Nat} {rr:Res (List Term')} {Aa Ab:Option Addr} {ca cb:Nat} {a b:List Term'} (h:OpSt w W B S bv u P PA pcap t1 k n p c K len cap A1 tss bm Am cm) (al:bv<w.heap.size) (hb:Below W.heap.size W w0) (ha:TmsAt w0 Aa a) (hbt:TmsAt w0 Ab b) (oa:polyOk u a=true) (ob:polyOk u b=true) (hrr:rr=limT u (nfT (a++b)) t1):PlC S bv u P PA pcap rr w Aa a.length ca Ab b.length cb w0:=by
 have l1:=(polyOk_size oa).2.2
 have l2:=(polyOk_size ob).2.2
 refine (polyPlus_any u u Aa Ab ca cb u.toNat a b w0 ha hbt (by omega) (by omega) (polyOk_len' oa) (polyOk_len' ob) (by have:=polyOk_size oa;omega)).mono ?_
 rintro e w3 ⟨A3,c3,rfl,hR,hb3⟩
 exact ⟨A3,_,c3,rfl,hb3,vaC h al (hb.trans (hb3.mono hb.size)) hR hb.size (addP_bd oa ob).1 (addP_bd oa ob).2 hrr⟩
theorem tmC {w W w0:World} {B:Nat} {S:Nat→Prop} {bv:Nat} {u:Int} {P:List Fn} {PA:Option Addr} {pcap t1:Nat} {k n p c:Int} {K:Option Addr} {len cap:Nat} {A1:Option Addr} {tss:List (List Term')} {bm:Nat} {Am:Option Addr} {cm:Nat} {rr:Res (List Term')} {Aa Ab:Option Addr} {ca cb:Nat} {a b:List Term'} (h:OpSt w W B S bv u P PA pcap t1 k n p c K len cap A1 tss bm Am cm) (al:bv<w.heap.size) (hb:Below W.heap.size W w0) (ha:TmsAt w0 Aa a) (hbt:TmsAt w0 Ab b) (oa:polyOk u a=true) (ob:polyOk u b=true) (hrr:rr=limT u (nfT (prods a b)) t1) :
  Calls Tryz.prog 134 #[.agg #[.int .i64 u,.slice Aa a.length ca],.agg #[.int .i64 u,.slice Ab b.length cb]] w0 fun e w3=>∃ A3 n3 c3,e=.returned (.agg #[.int .i64 u,.slice A3 n3 c3])∧Below w0.heap.size w0 w3∧VaC S bv u P PA pcap rr w w3 A3 n3 c3:=by
 refine (polyTimes_any u Aa Ab ca cb a b w0 ha hbt oa ob).mono ?_
 rintro e w3 ⟨A3,c3,rfl,hR,hb3⟩
 have hbd:=bdMul oa ob
 exact ⟨A3,_,c3,rfl,hb3,vaC h al (hb.trans (hb3.mono hb.size)) hR hb.size (by omega) hbd.2 hrr⟩
theorem tkC {w0:World} {u k:Int} {Aa Ab:Option Addr} {ca cb:Nat} {a:List Term'} (ha:TmsAt w0 Aa a) (hbt:TmsAt w0 Ab (constT u k)) (oa:polyOk u a=true) (ob:polyOk u (constT u k)=true) (k1:1≤k) (k2:k≤1000002) (n:Nat) (hn:n=(constT u k).length) :
  Calls Tryz.prog 134 #[.agg #[.int .i64 u,.slice Aa a.length ca],.agg #[.int .i64 u,.slice Ab n cb]] w0 fun e w3=>∃ A3 c3,e=.returned (.agg #[.int .i64 u,.slice A3 (sclT k a).length c3])∧RT w3 w0.heap.size w3.heap.size A3 (sclT k a)∧Below w0.heap.size w0 w3:=by
 subst hn
 refine (polyTimes_any u Aa Ab ca cb a (constT u k) w0 ha hbt oa ob).mono ?_
 rintro e w3 ⟨A3,c3,rfl,hR,hb3⟩
 rw [prods_const oa k1 k2] at hR ⊢
 exact ⟨A3,c3,rfl,hR,hb3⟩
theorem poly_op3 (P:List Fn) (x:Nd) (u:Int) (f:Nat) (IH:PolyC P u f) (env:List (List Term')) (t:Nat) (fn:Int) (K:Option Addr) (cap B:Nat) (S:Nat→Prop) (bv:Nat) (A PA:Option Addr) (ecap pcap:Nat) (w:World) (hI:EvIn w B bv 1 P PA pcap) (hS:SIn w B S bv u) (hst:Cells w bv 168 (hdP u P PA pcap++[.int .i64 t,.int .i64 0])) (hN:NdInP w B S u P fn x K cap A env ecap) (hk:x.k=3) (hs:t<3000) (hf:3001≤t+(f+1)) :
  Calls Tryz.prog 176 #[.pointer (some ⟨bv,0,none⟩),exV x.k x.n x.p x.c K x.ks.len cap,.slice A env.length ecap] w (PPost S bv u 168 (hdP u P PA pcap) (pv u P (f+1) x env t) w):=by
 have HEV:Hid (pv u P (f+1) x env t=match pvAll (pv u P f) env x.ks (t+1) with | .err e=>.err e | .ok zs s1=>limT u (nfT (zs.getD 0 []++zs.getD 1 [])) s1):=by
  show _=_
  rw [pv,if_neg (by omega),if_neg (by omega),if_neg (by omega),if_neg (by omega),if_neg (by omega)]
  cases pvAll (pv u P f) env x.ks (t+1) with
  | err e=>rfl
  | ok zs s1=>simp only;rw [if_neg (by omega)];rw [if_neg (by omega)];unfold pvOp;rw [if_pos hk]
 obtain ⟨rr,hrr⟩:∃ rr,rr=pv u P (f+1) x env t:=⟨_,rfl⟩
 rw [←hrr]
 have HRR:=hid (hrr.trans HEV.out)
 clear HEV hrr
 have HALL:=hid (polyAll_of P u f IH)
 have al:=hI.lt
 have hB:=hI.blow
 have u0:=hS.u0
 have u1:=hS.u1
 have a1:w.cell? ⟨bv,1,none⟩=some (.int .i64 u):=by rw [hst.cell];rfl
 have a2:w.cell? ⟨bv,2,none⟩=some (.int .i64 t):=by rw [hst.cell];rfl
 have a3:w.cell? ⟨bv,3,none⟩=some (.int .i64 0):=by rw [hst.cell];rfl
 have z2:w.frozen? ⟨bv,2,none⟩=false:=hst.frozen _
 have e1:((t:Int)==3000)=false:=by simp;omega
 have hE:=pvStep hI hS hst 3 x.n x.p x.c K x.ks.len cap
 have hoS:Only S w (pvW w bv t 3 x.n x.p x.c K x.ks.len cap):=hE.only.sub fun q e=>by rw [e];exact hS.bv
 have HLS:=hid (LsInP.of (g:=w.heap.size+1) hN hoS (only_below hE.only hB al) (by omega) (by omega))
 have HE:=hid hE
 have HN:=hid hN
 have HSI:=hid hS
 have HIH:=hid IH
 have HLN:=hid (formed_opN (N:=2) hN.form (by rw [hk];exact .inl ⟨by omega,rfl⟩))
 clear hI hst hE hN hS IH hoS
 have HKK:=hid hk
 rw [hk]
 clear hk
 go_enter Tryz.func176,Tryz.ntmps176
 go_wp2_with fail
 refine (HALL.out x.ks env ((t+1:Nat):Int) (t+1) 0 fn K cap B (privS S (w.heap.size+1)) bv A PA ecap pcap _ HE.out.ev HE.out.si HE.out.st (fun _=>⟨rfl,by omega,by omega⟩) HLS.out).mono ?_;rintro e w1 ⟨A1,cp,tss,s',c',rfl,hl,hcp,hcm,hEn,hS1,hO1,hres⟩
 have c3:w1.cell? ⟨bv,3,none⟩=some (.int .i64 c'):=by rw [hS1.cell];rfl
 have c1:w1.cell? ⟨bv,1,none⟩=some (.int .i64 u):=by rw [hS1.cell];rfl
 have cl:=hS1.lt
 have HS1:=hid hS1
 have HO1:=hid hO1
 have HEN:=hid hEn
 have HL:=hid hl
 have HRES:=hid hres
 clear hS1 hO1 hEn hres
 by_cases hc:c'=0
 ·have hRES:=pvAC_next HRES.out hc
  subst hc
  obtain ⟨t1,hs1,_,ht1,hev⟩:=hRES.2
  subst hs1
  have HEV:=hid hev
  have HT1:Hid (t1≤3000):=ht1 (by omega)
  have HT2:Hid (t<t1):=by show _<_;omega
  clear hRES hev ht1 HRES
  go_wp2_with fail
  refine (minusOne_any u w1 u0 u1).mono ?_;rintro e w2 ⟨Am,cm,rfl,hp2,hb2⟩
  have HM:=hid (opSt (cm:=cm) HE.out al HS1.out HO1.out HEN.out hp2 hb2)
  clear hp2 hb2 HALL HLS HS1 HO1 HEN c1 c3 cl
  have hlen:tss.length=2:=by rw [HL.out,HLN.out]
  obtain ⟨b1,o1,Aa,ca,Ab,cb,rfl,hb1,hPa,hoa,hsec,hcell⟩:=HM.out.env.two (by omega)
  have l0:(0:Int)<(x.ks.len:Int):=by rw [HLN.out];omega
  have l0n:0<x.ks.len:=by rw [HLN.out];omega
  have l1:(1:Int)<(x.ks.len:Int):=by rw [HLN.out];omega
  have l1n:1<x.ks.len:=by rw [HLN.out];omega
  obtain ⟨hPb,hob⟩:=hsec (by omega)
  have HCELL:Hid (∀ w',OnlyH (privS S (w.heap.size+1)) (w2.alloc (.cells #[.int .i64 u,.slice Am 1 cm] 86)) w'→w'.cell? ⟨b1,o1,none⟩=some (.int .i64 u)∧w'.cell? ⟨b1,o1+1,none⟩=some (.slice Aa (tss.getD 0 []).length ca)∧w'.cell? ⟨b1,o1+2,none⟩=some (.int .i64 u)∧w'.cell? ⟨b1,o1+2+1,none⟩=some (.slice Ab (tss.getD 1 []).length cb)):=fun w' ho=>⟨(hcell w' ho).1,(hcell w' ho).2.1,(hcell w' ho).2.2 (by omega)⟩
  have HPB:=hid (And.intro hPb hob)
  clear hPb hob
  have HPA:=hid (And.intro hPa hoa)
  have x0:(w2.alloc (.cells #[.int .i64 u,.slice Am 1 cm] 86)).cell? ⟨w.heap.size,0,none⟩=some (.int .i64 3):=by rw [HM.out.bx.cell];rfl
  have HAS:Hid (∀ zs s1,pvAll (pv u P f) env x.ks (t+1)=.ok zs s1→zs=tss∧s1=t1):=fun zs s1 h=>by rw [HEV.out] at h;injection h with h1 h2;exact ⟨h1.symm,h2.symm⟩
  have HRV:Hid (rr=limT u (nfT (tss.getD 0 []++tss.getD 1 [])) t1):=by show _=_;rw [HRR.out,HEV.out]
  clear hPa hoa hsec hcell HRR HEV
  obtain ⟨za,hza⟩:∃ z,z=tss.getD 0 []:=⟨_,rfl⟩
  obtain ⟨zb,hzb⟩:∃ z,z=tss.getD 1 []:=⟨_,rfl⟩
  rw [←hza] at HPA HCELL
  rw [←hza] at HRV
  rw [←hzb] at HPB HCELL HRV
  have HZ:=hid (And.intro hza hzb)
  clear hza hzb
  go_upto_region 32 with fail
  change Code.wp _ _ _ _ (w2.alloc (.cells #[.int .i64 u,.slice Am 1 cm] 86))
  generalize w2.alloc (.cells #[.int .i64 u,.slice Am 1 cm] 86)=W at *
  generalize w2.heap.size=bm at *
  clear x0
  have hd:Below W.heap.size W W.drew:=(Below.refl _ _).drew
  have HMB:Hid (∀ w',Only (fun q=>q=bv) W w'→w'.cell? ⟨bm,0,none⟩=some (.int .i64 u)∧w'.cell? ⟨bm,1,none⟩=some (.slice Am 1 cm)):=fun w' ho=>by
   have h:=only_cells HM.out.mb ho (by have:=HM.out.ml;omega)
   exact ⟨by rw [h.cell];rfl,by rw [h.cell];rfl⟩
  have HSB:Hid (∀ w',Only (fun q=>q=bv) W w'→OnlyH (privS S (w.heap.size+1)) W w'):=fun w' ho=>(ho.sub (T:=privS S (w.heap.size+1)) fun q e=>by rw [e];exact HM.out.si.bv).h
  obtain ⟨na,hna⟩:∃ n,n=za.length:=⟨_,rfl⟩
  obtain ⟨nb,hnb⟩:∃ n,n=zb.length:=⟨_,rfl⟩
  have HOP:Hid (PlC S bv u P PA pcap rr w Aa na ca Ab nb cb W.drew):=by rw [hna,hnb];exact plC HM.out al hd ((HPA.out.1.only (Only.of_below hd)).now) ((HPB.out.1.only (Only.of_below hd)).now) HPA.out.2 HPB.out.2 HRV.out
  have HNA:=hid (And.intro hna hnb)
  clear hna hnb
  refine RegE.start (S:=fun wx=>wx.cell? ⟨b1,o1,none⟩=some (.int .i64 u)∧wx.cell? ⟨b1,o1+1,none⟩=some (.slice Aa na ca)∧wx.cell? ⟨b1,o1+2,none⟩=some (.int .i64 u)∧wx.cell? ⟨b1,o1+2+1,none⟩=some (.slice Ab nb cb)) 9 (by kernel_rfl) (by kernel_rfl) ?Sa0 (fun hHeld hB=>?_)
  case Sa0=>((try dsimp only);exact (by have:=HCELL.out W.drew (HSB.out _ (Only.of_below hd));rw [←HNA.out.1,←HNA.out.2] at this;exact this))
  refine RegE.takeL (S:=fun wx=>wx.cell? ⟨b1,o1,none⟩=some (.int .i64 u)∧wx.cell? ⟨b1,o1+1,none⟩=some (.slice Aa na ca)∧wx.cell? ⟨b1,o1+2,none⟩=some (.int .i64 u)∧wx.cell? ⟨b1,o1+2+1,none⟩=some (.slice Ab nb cb)) (i:=0) (v:=?va0) hB rfl (by decide) (by kernel_rfl) (by kernel_rfl) (fun _ _ _ h=>h) (Or.inl ⟨by rfl, ?ya0⟩) hHeld ?ra0
  case ya0=>((intro w hSw;(try dsimp only at hSw);go_simp)<;>with_reducible rfl)
  (try simp only [Act.put,List.setIfInBounds_toArray,List.set_cons_zero,List.set_cons_succ])
  refine RegE.takeL (S:=fun wx=>wx.cell? ⟨b1,o1,none⟩=some (.int .i64 u)∧wx.cell? ⟨b1,o1+1,none⟩=some (.slice Aa na ca)∧wx.cell? ⟨b1,o1+2,none⟩=some (.int .i64 u)∧wx.cell? ⟨b1,o1+2+1,none⟩=some (.slice Ab nb cb)) (i:=1) (v:=?va1) hB rfl (by decide) (by kernel_rfl) (by kernel_rfl) (fun _ _ _ h=>h) (Or.inl ⟨by rfl, ?ya1⟩) hHeld ?ra1
  case ya1=>((intro w hSw;(try dsimp only at hSw);go_simp)<;>with_reducible rfl)
  (try simp only [Act.put,List.setIfInBounds_toArray,List.set_cons_zero,List.set_cons_succ])
  refine RegE.takeL (S:=fun wx=>wx.cell? ⟨b1,o1,none⟩=some (.int .i64 u)∧wx.cell? ⟨b1,o1+1,none⟩=some (.slice Aa na ca)∧wx.cell? ⟨b1,o1+2,none⟩=some (.int .i64 u)∧wx.cell? ⟨b1,o1+2+1,none⟩=some (.slice Ab nb cb)) (i:=2) (v:=?va2) hB rfl (by decide) (by kernel_rfl) (by kernel_rfl) (fun _ _ _ h=>h) (Or.inl ⟨by rfl, ?ya2⟩) hHeld ?ra2
  case ya2=>((intro w hSw;(try dsimp only at hSw);go_simp)<;>with_reducible rfl)
  (try simp only [Act.put,List.setIfInBounds_toArray,List.set_cons_zero,List.set_cons_succ])
  refine RegE.takeL (S:=fun wx=>wx.cell? ⟨b1,o1,none⟩=some (.int .i64 u)∧wx.cell? ⟨b1,o1+1,none⟩=some (.slice Aa na ca)∧wx.cell? ⟨b1,o1+2,none⟩=some (.int .i64 u)∧wx.cell? ⟨b1,o1+2+1,none⟩=some (.slice Ab nb cb)) (i:=3) (v:=?va3) hB rfl (by decide) (by kernel_rfl) (by kernel_rfl) (fun _ _ _ h=>h) (Or.inl ⟨by rfl, ?ya3⟩) hHeld ?ra3
  case ya3=>((intro w hSw;(try dsimp only at hSw);go_simp)<;>with_reducible rfl)
  (try simp only [Act.put,List.setIfInBounds_toArray,List.set_cons_zero,List.set_cons_succ])
  refine RegE.takeL (S:=fun wx=>wx.cell? ⟨b1,o1,none⟩=some (.int .i64 u)∧wx.cell? ⟨b1,o1+1,none⟩=some (.slice Aa na ca)∧wx.cell? ⟨b1,o1+2,none⟩=some (.int .i64 u)∧wx.cell? ⟨b1,o1+2+1,none⟩=some (.slice Ab nb cb)) (i:=4) (v:=?va4) hB rfl (by decide) (by kernel_rfl) (by kernel_rfl) (fun _ _ _ h=>h) (Or.inl ⟨by rfl, ?ya4⟩) hHeld ?ra4
  case ya4=>((intro w hSw;(try dsimp only at hSw);go_simp)<;>with_reducible rfl)
  (try simp only [Act.put,List.setIfInBounds_toArray,List.set_cons_zero,List.set_cons_succ])
  refine RegE.takeL (S:=fun wx=>wx.cell? ⟨b1,o1,none⟩=some (.int .i64 u)∧wx.cell? ⟨b1,o1+1,none⟩=some (.slice Aa na ca)∧wx.cell? ⟨b1,o1+2,none⟩=some (.int .i64 u)∧wx.cell? ⟨b1,o1+2+1,none⟩=some (.slice Ab nb cb)) (i:=5) (v:=?va5) hB rfl (by decide) (by kernel_rfl) (by kernel_rfl) (fun _ _ _ h=>h) (Or.inl ⟨by rfl, ?ya5⟩) hHeld ?ra5
  case ya5=>((intro w hSw;(try dsimp only at hSw);go_simp)<;>with_reducible rfl)
  (try simp only [Act.put,List.setIfInBounds_toArray,List.set_cons_zero,List.set_cons_succ])
  refine RegE.takeL (S:=fun wx=>wx.cell? ⟨b1,o1,none⟩=some (.int .i64 u)∧wx.cell? ⟨b1,o1+1,none⟩=some (.slice Aa na ca)∧wx.cell? ⟨b1,o1+2,none⟩=some (.int .i64 u)∧wx.cell? ⟨b1,o1+2+1,none⟩=some (.slice Ab nb cb)) (i:=6) (v:=?va6) hB rfl (by decide) (by kernel_rfl) (by kernel_rfl) (fun _ _ _ h=>h) (Or.inl ⟨by rfl, ?ya6⟩) hHeld ?ra6
  case ya6=>((intro w hSw;(try dsimp only at hSw);go_simp)<;>with_reducible rfl)
  (try simp only [Act.put,List.setIfInBounds_toArray,List.set_cons_zero,List.set_cons_succ])
  refine RegE.stepL (i:=7) rfl (by decide) (by kernel_rfl) (fun K hK=>?_)
  go_simp
  go_at_call 133
  refine (show Calls _ _ _ _ _ from HOP.out).mono ?_
  rintro e w3 ⟨A5,n5,c5,rfl,hb3,hVA⟩
  have HVA:=hid (show Calls _ _ _ _ _ from hVA)
  have hO3:Only (fun q=>q=bv) W w3:=Only.of_below (hd.trans (hb3.mono (Nat.le_refl _)))
  refine hK.out _ _ ?Sa7 (fun hHeldN=>?_)
  case Sa7=>((try dsimp only);exact (by have:=HCELL.out _ (HSB.out _ hO3);rw [←HNA.out.1,←HNA.out.2] at this;exact this))
  clear hK K hHeld
  have hHeld:=hHeldN
  clear hHeldN
  (try simp only [Act.put,List.setIfInBounds_toArray,List.set_cons_zero,List.set_cons_succ])
  refine RegE.stepL (i:=8) rfl (by decide) (by kernel_rfl) (fun K hK=>?_)
  go_simp
  go_at_call 235
  refine HVA.out.mono ?_
  rintro e w4 ⟨A3,n3,cp3,rfl,hEnd,hO4,hC4⟩
  refine hK.out _ _ ?Sa8 (fun hHeldN=>?_)
  case Sa8=>((try dsimp only);exact (by have:=HCELL.out _ (HSB.out _ (hO3.trans hO4));rw [←HNA.out.1,←HNA.out.2] at this;exact this))
  clear hK K hHeld
  have hHeld:=hHeldN
  clear hHeldN
  (try simp only [Act.put,List.setIfInBounds_toArray,List.set_cons_zero,List.set_cons_succ])
  obtain ⟨⟨k0,k1,q0,q1'⟩,⟨y0,y1⟩,HE2⟩:=hEnd
  refine RegE.lastL rfl (by kernel_rfl) (by kernel_rfl) (fun K hK=>?_)
  go_simp
  refine hK.out _ _ ?_
  clear hK K
  clear hC4 hO3 hO4 hb3 hVA
  have HE3:=hid HE2
  clear HE2
  go_wp2
  refine bodyPost_ret (v:=poV u A3 n3 cp3) (by simp [results,Tryz.results176,go_sem,y0,y1]) rfl ?_
  exact HE3.out
 ·have HB:=hid (pvAC_bad HRES.out hc rfl)
  have hc1:(c' != 0)=true:=by simpa using hc
  have hD:=deadP (S:=S) (rr:=rr) HS1.out (HE.out.only.trans HO1.out) (by rw [HRR.out,HB.out]) u0 u1 al (only_cells HE.out.rb HO1.out (by omega))
  obtain ⟨⟨k0,k1,q0,q1⟩,⟨y0,y1⟩,HE2⟩:=hD
  have HE3:=hid HE2
  clear HE2 HS1 HO1 HEN HRES HALL HLS hl hc
  go_wp2
  refine bodyPost_ret (v:=poV u none 0 0) (by simp [results,Tryz.results176,go_sem,y0,y1]) rfl ?_
  exact HE3.out
theorem poly_op5 (P:List Fn) (x:Nd) (u:Int) (f:Nat) (IH:PolyC P u f) (env:List (List Term')) (t:Nat) (fn:Int) (K:Option Addr) (cap B:Nat) (S:Nat→Prop) (bv:Nat) (A PA:Option Addr) (ecap pcap:Nat) (w:World) (hI:EvIn w B bv 1 P PA pcap) (hS:SIn w B S bv u) (hst:Cells w bv 168 (hdP u P PA pcap++[.int .i64 t,.int .i64 0])) (hN:NdInP w B S u P fn x K cap A env ecap) (hk:x.k=5) (hs:t<3000) (hf:3001≤t+(f+1)) :
  Calls Tryz.prog 176 #[.pointer (some ⟨bv,0,none⟩),exV x.k x.n x.p x.c K x.ks.len cap,.slice A env.length ecap] w (PPost S bv u 168 (hdP u P PA pcap) (pv u P (f+1) x env t) w):=by
 have HEV:Hid (pv u P (f+1) x env t=match pvAll (pv u P f) env x.ks (t+1) with | .err e=>.err e | .ok zs s1=>limT u (nfT (prods (zs.getD 0 []) (zs.getD 1 []))) s1):=by
  show _=_
  rw [pv,if_neg (by omega),if_neg (by omega),if_neg (by omega),if_neg (by omega),if_neg (by omega)]
  cases pvAll (pv u P f) env x.ks (t+1) with
  | err e=>rfl
  | ok zs s1=>simp only;rw [if_neg (by omega)];rw [if_neg (by omega)];unfold pvOp;rw [if_neg (by omega)];rw [if_neg (by omega)];rw [if_pos hk]
 obtain ⟨rr,hrr⟩:∃ rr,rr=pv u P (f+1) x env t:=⟨_,rfl⟩
 rw [←hrr]
 have HRR:=hid (hrr.trans HEV.out)
 clear HEV hrr
 have HALL:=hid (polyAll_of P u f IH)
 have al:=hI.lt
 have hB:=hI.blow
 have u0:=hS.u0
 have u1:=hS.u1
 have a1:w.cell? ⟨bv,1,none⟩=some (.int .i64 u):=by rw [hst.cell];rfl
 have a2:w.cell? ⟨bv,2,none⟩=some (.int .i64 t):=by rw [hst.cell];rfl
 have a3:w.cell? ⟨bv,3,none⟩=some (.int .i64 0):=by rw [hst.cell];rfl
 have z2:w.frozen? ⟨bv,2,none⟩=false:=hst.frozen _
 have e1:((t:Int)==3000)=false:=by simp;omega
 have hE:=pvStep hI hS hst 5 x.n x.p x.c K x.ks.len cap
 have hoS:Only S w (pvW w bv t 5 x.n x.p x.c K x.ks.len cap):=hE.only.sub fun q e=>by rw [e];exact hS.bv
 have HLS:=hid (LsInP.of (g:=w.heap.size+1) hN hoS (only_below hE.only hB al) (by omega) (by omega))
 have HE:=hid hE
 have HN:=hid hN
 have HSI:=hid hS
 have HIH:=hid IH
 have HLN:=hid (formed_opN (N:=2) hN.form (by rw [hk];exact .inl ⟨by omega,rfl⟩))
 clear hI hst hE hN hS IH hoS
 have HKK:=hid hk
 rw [hk]
 clear hk
 go_enter Tryz.func176,Tryz.ntmps176
 go_wp2_with fail
 refine (HALL.out x.ks env ((t+1:Nat):Int) (t+1) 0 fn K cap B (privS S (w.heap.size+1)) bv A PA ecap pcap _ HE.out.ev HE.out.si HE.out.st (fun _=>⟨rfl,by omega,by omega⟩) HLS.out).mono ?_;rintro e w1 ⟨A1,cp,tss,s',c',rfl,hl,hcp,hcm,hEn,hS1,hO1,hres⟩
 have c3:w1.cell? ⟨bv,3,none⟩=some (.int .i64 c'):=by rw [hS1.cell];rfl
 have c1:w1.cell? ⟨bv,1,none⟩=some (.int .i64 u):=by rw [hS1.cell];rfl
 have cl:=hS1.lt
 have HS1:=hid hS1
 have HO1:=hid hO1
 have HEN:=hid hEn
 have HL:=hid hl
 have HRES:=hid hres
 clear hS1 hO1 hEn hres
 by_cases hc:c'=0
 ·have hRES:=pvAC_next HRES.out hc
  subst hc
  obtain ⟨t1,hs1,_,ht1,hev⟩:=hRES.2
  subst hs1
  have HEV:=hid hev
  have HT1:Hid (t1≤3000):=ht1 (by omega)
  have HT2:Hid (t<t1):=by show _<_;omega
  clear hRES hev ht1 HRES
  go_wp2_with fail
  refine (minusOne_any u w1 u0 u1).mono ?_;rintro e w2 ⟨Am,cm,rfl,hp2,hb2⟩
  have HM:=hid (opSt (cm:=cm) HE.out al HS1.out HO1.out HEN.out hp2 hb2)
  clear hp2 hb2 HALL HLS HS1 HO1 HEN c1 c3 cl
  have hlen:tss.length=2:=by rw [HL.out,HLN.out]
  obtain ⟨b1,o1,Aa,ca,Ab,cb,rfl,hb1,hPa,hoa,hsec,hcell⟩:=HM.out.env.two (by omega)
  have l0:(0:Int)<(x.ks.len:Int):=by rw [HLN.out];omega
  have l0n:0<x.ks.len:=by rw [HLN.out];omega
  have l1:(1:Int)<(x.ks.len:Int):=by rw [HLN.out];omega
  have l1n:1<x.ks.len:=by rw [HLN.out];omega
  obtain ⟨hPb,hob⟩:=hsec (by omega)
  have HCELL:Hid (∀ w',OnlyH (privS S (w.heap.size+1)) (w2.alloc (.cells #[.int .i64 u,.slice Am 1 cm] 86)) w'→w'.cell? ⟨b1,o1,none⟩=some (.int .i64 u)∧w'.cell? ⟨b1,o1+1,none⟩=some (.slice Aa (tss.getD 0 []).length ca)∧w'.cell? ⟨b1,o1+2,none⟩=some (.int .i64 u)∧w'.cell? ⟨b1,o1+2+1,none⟩=some (.slice Ab (tss.getD 1 []).length cb)):=fun w' ho=>⟨(hcell w' ho).1,(hcell w' ho).2.1,(hcell w' ho).2.2 (by omega)⟩
  have HPB:=hid (And.intro hPb hob)
  clear hPb hob
  have HPA:=hid (And.intro hPa hoa)
  have x0:(w2.alloc (.cells #[.int .i64 u,.slice Am 1 cm] 86)).cell? ⟨w.heap.size,0,none⟩=some (.int .i64 5):=by rw [HM.out.bx.cell];rfl
  have HAS:Hid (∀ zs s1,pvAll (pv u P f) env x.ks (t+1)=.ok zs s1→zs=tss∧s1=t1):=fun zs s1 h=>by rw [HEV.out] at h;injection h with h1 h2;exact ⟨h1.symm,h2.symm⟩
  have HRV:Hid (rr=limT u (nfT (prods (tss.getD 0 []) (tss.getD 1 []))) t1):=by show _=_;rw [HRR.out,HEV.out]
  clear hPa hoa hsec hcell HRR HEV
  obtain ⟨za,hza⟩:∃ z,z=tss.getD 0 []:=⟨_,rfl⟩
  obtain ⟨zb,hzb⟩:∃ z,z=tss.getD 1 []:=⟨_,rfl⟩
  rw [←hza] at HPA HCELL
  rw [←hza] at HRV
  rw [←hzb] at HPB HCELL HRV
  have HZ:=hid (And.intro hza hzb)
  clear hza hzb
  go_upto_region 36 with fail
  change Code.wp _ _ _ _ (w2.alloc (.cells #[.int .i64 u,.slice Am 1 cm] 86))
  generalize w2.alloc (.cells #[.int .i64 u,.slice Am 1 cm] 86)=W at *
  generalize w2.heap.size=bm at *
  clear x0
  have hd:Below W.heap.size W W.drew:=(Below.refl _ _).drew
  have HMB:Hid (∀ w',Only (fun q=>q=bv) W w'→w'.cell? ⟨bm,0,none⟩=some (.int .i64 u)∧w'.cell? ⟨bm,1,none⟩=some (.slice Am 1 cm)):=fun w' ho=>by
   have h:=only_cells HM.out.mb ho (by have:=HM.out.ml;omega)
   exact ⟨by rw [h.cell];rfl,by rw [h.cell];rfl⟩
  have HSB:Hid (∀ w',Only (fun q=>q=bv) W w'→OnlyH (privS S (w.heap.size+1)) W w'):=fun w' ho=>(ho.sub (T:=privS S (w.heap.size+1)) fun q e=>by rw [e];exact HM.out.si.bv).h
  obtain ⟨na,hna⟩:∃ n,n=za.length:=⟨_,rfl⟩
  obtain ⟨nb,hnb⟩:∃ n,n=zb.length:=⟨_,rfl⟩
  have HOP:=hid (tmC (rr:=rr) (ca:=ca) (cb:=cb) HM.out al hd ((HPA.out.1.only (Only.of_below hd)).now) ((HPB.out.1.only (Only.of_below hd)).now) HPA.out.2 HPB.out.2 HRV.out)
  rw [←hna,←hnb] at HOP
  have HNA:=hid (And.intro hna hnb)
  clear hna hnb
  refine RegE.start (S:=fun wx=>wx.cell? ⟨b1,o1,none⟩=some (.int .i64 u)∧wx.cell? ⟨b1,o1+1,none⟩=some (.slice Aa na ca)∧wx.cell? ⟨b1,o1+2,none⟩=some (.int .i64 u)∧wx.cell? ⟨b1,o1+2+1,none⟩=some (.slice Ab nb cb)) 9 (by kernel_rfl) (by kernel_rfl) ?Sa0 (fun hHeld hB=>?_)
  case Sa0=>((try dsimp only);exact (by have:=HCELL.out W.drew (HSB.out _ (Only.of_below hd));rw [←HNA.out.1,←HNA.out.2] at this;exact this))
  refine RegE.takeL (S:=fun wx=>wx.cell? ⟨b1,o1,none⟩=some (.int .i64 u)∧wx.cell? ⟨b1,o1+1,none⟩=some (.slice Aa na ca)∧wx.cell? ⟨b1,o1+2,none⟩=some (.int .i64 u)∧wx.cell? ⟨b1,o1+2+1,none⟩=some (.slice Ab nb cb)) (i:=0) (v:=?va0) hB rfl (by decide) (by kernel_rfl) (by kernel_rfl) (fun _ _ _ h=>h) (Or.inl ⟨by rfl, ?ya0⟩) hHeld ?ra0
  case ya0=>((intro w hSw;(try dsimp only at hSw);go_simp)<;>with_reducible rfl)
  (try simp only [Act.put,List.setIfInBounds_toArray,List.set_cons_zero,List.set_cons_succ])
  refine RegE.takeL (S:=fun wx=>wx.cell? ⟨b1,o1,none⟩=some (.int .i64 u)∧wx.cell? ⟨b1,o1+1,none⟩=some (.slice Aa na ca)∧wx.cell? ⟨b1,o1+2,none⟩=some (.int .i64 u)∧wx.cell? ⟨b1,o1+2+1,none⟩=some (.slice Ab nb cb)) (i:=1) (v:=?va1) hB rfl (by decide) (by kernel_rfl) (by kernel_rfl) (fun _ _ _ h=>h) (Or.inl ⟨by rfl, ?ya1⟩) hHeld ?ra1
  case ya1=>((intro w hSw;(try dsimp only at hSw);go_simp)<;>with_reducible rfl)
  (try simp only [Act.put,List.setIfInBounds_toArray,List.set_cons_zero,List.set_cons_succ])
  refine RegE.takeL (S:=fun wx=>wx.cell? ⟨b1,o1,none⟩=some (.int .i64 u)∧wx.cell? ⟨b1,o1+1,none⟩=some (.slice Aa na ca)∧wx.cell? ⟨b1,o1+2,none⟩=some (.int .i64 u)∧wx.cell? ⟨b1,o1+2+1,none⟩=some (.slice Ab nb cb)) (i:=2) (v:=?va2) hB rfl (by decide) (by kernel_rfl) (by kernel_rfl) (fun _ _ _ h=>h) (Or.inl ⟨by rfl, ?ya2⟩) hHeld ?ra2
  case ya2=>((intro w hSw;(try dsimp only at hSw);go_simp)<;>with_reducible rfl)
  (try simp only [Act.put,List.setIfInBounds_toArray,List.set_cons_zero,List.set_cons_succ])
  refine RegE.takeL (S:=fun wx=>wx.cell? ⟨b1,o1,none⟩=some (.int .i64 u)∧wx.cell? ⟨b1,o1+1,none⟩=some (.slice Aa na ca)∧wx.cell? ⟨b1,o1+2,none⟩=some (.int .i64 u)∧wx.cell? ⟨b1,o1+2+1,none⟩=some (.slice Ab nb cb)) (i:=3) (v:=?va3) hB rfl (by decide) (by kernel_rfl) (by kernel_rfl) (fun _ _ _ h=>h) (Or.inl ⟨by rfl, ?ya3⟩) hHeld ?ra3
  case ya3=>((intro w hSw;(try dsimp only at hSw);go_simp)<;>with_reducible rfl)
  (try simp only [Act.put,List.setIfInBounds_toArray,List.set_cons_zero,List.set_cons_succ])
  refine RegE.takeL (S:=fun wx=>wx.cell? ⟨b1,o1,none⟩=some (.int .i64 u)∧wx.cell? ⟨b1,o1+1,none⟩=some (.slice Aa na ca)∧wx.cell? ⟨b1,o1+2,none⟩=some (.int .i64 u)∧wx.cell? ⟨b1,o1+2+1,none⟩=some (.slice Ab nb cb)) (i:=4) (v:=?va4) hB rfl (by decide) (by kernel_rfl) (by kernel_rfl) (fun _ _ _ h=>h) (Or.inl ⟨by rfl, ?ya4⟩) hHeld ?ra4
  case ya4=>((intro w hSw;(try dsimp only at hSw);go_simp)<;>with_reducible rfl)
  (try simp only [Act.put,List.setIfInBounds_toArray,List.set_cons_zero,List.set_cons_succ])
  refine RegE.takeL (S:=fun wx=>wx.cell? ⟨b1,o1,none⟩=some (.int .i64 u)∧wx.cell? ⟨b1,o1+1,none⟩=some (.slice Aa na ca)∧wx.cell? ⟨b1,o1+2,none⟩=some (.int .i64 u)∧wx.cell? ⟨b1,o1+2+1,none⟩=some (.slice Ab nb cb)) (i:=5) (v:=?va5) hB rfl (by decide) (by kernel_rfl) (by kernel_rfl) (fun _ _ _ h=>h) (Or.inl ⟨by rfl, ?ya5⟩) hHeld ?ra5
  case ya5=>((intro w hSw;(try dsimp only at hSw);go_simp)<;>with_reducible rfl)
  (try simp only [Act.put,List.setIfInBounds_toArray,List.set_cons_zero,List.set_cons_succ])
  refine RegE.takeL (S:=fun wx=>wx.cell? ⟨b1,o1,none⟩=some (.int .i64 u)∧wx.cell? ⟨b1,o1+1,none⟩=some (.slice Aa na ca)∧wx.cell? ⟨b1,o1+2,none⟩=some (.int .i64 u)∧wx.cell? ⟨b1,o1+2+1,none⟩=some (.slice Ab nb cb)) (i:=6) (v:=?va6) hB rfl (by decide) (by kernel_rfl) (by kernel_rfl) (fun _ _ _ h=>h) (Or.inl ⟨by rfl, ?ya6⟩) hHeld ?ra6
  case ya6=>((intro w hSw;(try dsimp only at hSw);go_simp)<;>with_reducible rfl)
  (try simp only [Act.put,List.setIfInBounds_toArray,List.set_cons_zero,List.set_cons_succ])
  refine RegE.stepL (i:=7) rfl (by decide) (by kernel_rfl) (fun K hK=>?_)
  go_simp
  go_at_call 134
  refine HOP.out.mono ?_
  rintro e w3 ⟨A5,n5,c5,rfl,hb3,hVA⟩
  have HVA:=hid (show Calls _ _ _ _ _ from hVA)
  have hO3:Only (fun q=>q=bv) W w3:=Only.of_below (hd.trans (hb3.mono (Nat.le_refl _)))
  refine hK.out _ _ ?Sa7 (fun hHeldN=>?_)
  case Sa7=>((try dsimp only);exact (by have:=HCELL.out _ (HSB.out _ hO3);rw [←HNA.out.1,←HNA.out.2] at this;exact this))
  clear hK K hHeld
  have hHeld:=hHeldN
  clear hHeldN
  (try simp only [Act.put,List.setIfInBounds_toArray,List.set_cons_zero,List.set_cons_succ])
  refine RegE.stepL (i:=8) rfl (by decide) (by kernel_rfl) (fun K hK=>?_)
  go_simp
  go_at_call 235
  refine HVA.out.mono ?_
  rintro e w4 ⟨A3,n3,cp3,rfl,hEnd,hO4,hC4⟩
  refine hK.out _ _ ?Sa8 (fun hHeldN=>?_)
  case Sa8=>((try dsimp only);exact (by have:=HCELL.out _ (HSB.out _ (hO3.trans hO4));rw [←HNA.out.1,←HNA.out.2] at this;exact this))
  clear hK K hHeld
  have hHeld:=hHeldN
  clear hHeldN
  (try simp only [Act.put,List.setIfInBounds_toArray,List.set_cons_zero,List.set_cons_succ])
  obtain ⟨⟨k0,k1,q0,q1'⟩,⟨y0,y1⟩,HE2⟩:=hEnd
  refine RegE.lastL rfl (by kernel_rfl) (by kernel_rfl) (fun K hK=>?_)
  go_simp
  refine hK.out _ _ ?_
  clear hK K
  clear hC4 hO3 hO4 hb3 hVA
  have HE3:=hid HE2
  clear HE2
  go_wp2
  refine bodyPost_ret (v:=poV u A3 n3 cp3) (by simp [results,Tryz.results176,go_sem,y0,y1]) rfl ?_
  exact HE3.out
 ·have HB:=hid (pvAC_bad HRES.out hc rfl)
  have hc1:(c' != 0)=true:=by simpa using hc
  have hD:=deadP (S:=S) (rr:=rr) HS1.out (HE.out.only.trans HO1.out) (by rw [HRR.out,HB.out]) u0 u1 al (only_cells HE.out.rb HO1.out (by omega))
  obtain ⟨⟨k0,k1,q0,q1⟩,⟨y0,y1⟩,HE2⟩:=hD
  have HE3:=hid HE2
  clear HE2 HS1 HO1 HEN HRES HALL HLS hl hc
  go_wp2
  refine bodyPost_ret (v:=poV u none 0 0) (by simp [results,Tryz.results176,go_sem,y0,y1]) rfl ?_
  exact HE3.out
theorem poly_op4 (P:List Fn) (x:Nd) (u:Int) (f:Nat) (IH:PolyC P u f) (env:List (List Term')) (t:Nat) (fn:Int) (K:Option Addr) (cap B:Nat) (S:Nat→Prop) (bv:Nat) (A PA:Option Addr) (ecap pcap:Nat) (w:World) (hI:EvIn w B bv 1 P PA pcap) (hS:SIn w B S bv u) (hst:Cells w bv 168 (hdP u P PA pcap++[.int .i64 t,.int .i64 0])) (hN:NdInP w B S u P fn x K cap A env ecap) (hk:x.k=4) (hs:t<3000) (hf:3001≤t+(f+1)) :
  Calls Tryz.prog 176 #[.pointer (some ⟨bv,0,none⟩),exV x.k x.n x.p x.c K x.ks.len cap,.slice A env.length ecap] w (PPost S bv u 168 (hdP u P PA pcap) (pv u P (f+1) x env t) w):=by
 have HEV:Hid (pv u P (f+1) x env t=match pvAll (pv u P f) env x.ks (t+1) with | .err e=>.err e | .ok zs s1=>limT u (nfT (zs.getD 0 []++sclT 1000002 (zs.getD 1 []))) s1):=by
  show _=_
  rw [pv,if_neg (by omega),if_neg (by omega),if_neg (by omega),if_neg (by omega),if_neg (by omega)]
  cases pvAll (pv u P f) env x.ks (t+1) with
  | err e=>rfl
  | ok zs s1=>simp only;rw [if_neg (by omega)];rw [if_neg (by omega)];unfold pvOp;rw [if_neg (by omega)];rw [if_pos hk]
 obtain ⟨rr,hrr⟩:∃ rr,rr=pv u P (f+1) x env t:=⟨_,rfl⟩
 rw [←hrr]
 have HRR:=hid (hrr.trans HEV.out)
 clear HEV hrr
 have HALL:=hid (polyAll_of P u f IH)
 have al:=hI.lt
 have hB:=hI.blow
 have u0:=hS.u0
 have u1:=hS.u1
 have a1:w.cell? ⟨bv,1,none⟩=some (.int .i64 u):=by rw [hst.cell];rfl
 have a2:w.cell? ⟨bv,2,none⟩=some (.int .i64 t):=by rw [hst.cell];rfl
 have a3:w.cell? ⟨bv,3,none⟩=some (.int .i64 0):=by rw [hst.cell];rfl
 have z2:w.frozen? ⟨bv,2,none⟩=false:=hst.frozen _
 have e1:((t:Int)==3000)=false:=by simp;omega
 have hE:=pvStep hI hS hst 4 x.n x.p x.c K x.ks.len cap
 have hoS:Only S w (pvW w bv t 4 x.n x.p x.c K x.ks.len cap):=hE.only.sub fun q e=>by rw [e];exact hS.bv
 have HLS:=hid (LsInP.of (g:=w.heap.size+1) hN hoS (only_below hE.only hB al) (by omega) (by omega))
 have HE:=hid hE
 have HN:=hid hN
 have HSI:=hid hS
 have HIH:=hid IH
 have HLN:=hid (formed_opN (N:=2) hN.form (by rw [hk];exact .inl ⟨by omega,rfl⟩))
 clear hI hst hE hN hS IH hoS
 have HKK:=hid hk
 rw [hk]
 clear hk
 go_enter Tryz.func176,Tryz.ntmps176
 go_wp2_with fail
 refine (HALL.out x.ks env ((t+1:Nat):Int) (t+1) 0 fn K cap B (privS S (w.heap.size+1)) bv A PA ecap pcap _ HE.out.ev HE.out.si HE.out.st (fun _=>⟨rfl,by omega,by omega⟩) HLS.out).mono ?_;rintro e w1 ⟨A1,cp,tss,s',c',rfl,hl,hcp,hcm,hEn,hS1,hO1,hres⟩
 have c3:w1.cell? ⟨bv,3,none⟩=some (.int .i64 c'):=by rw [hS1.cell];rfl
 have c1:w1.cell? ⟨bv,1,none⟩=some (.int .i64 u):=by rw [hS1.cell];rfl
 have cl:=hS1.lt
 have HS1:=hid hS1
 have HO1:=hid hO1
 have HEN:=hid hEn
 have HL:=hid hl
 have HRES:=hid hres
 clear hS1 hO1 hEn hres
 by_cases hc:c'=0
 ·have hRES:=pvAC_next HRES.out hc
  subst hc
  obtain ⟨t1,hs1,_,ht1,hev⟩:=hRES.2
  subst hs1
  have HEV:=hid hev
  have HT1:Hid (t1≤3000):=ht1 (by omega)
  have HT2:Hid (t<t1):=by show _<_;omega
  clear hRES hev ht1 HRES
  go_wp2_with fail
  refine (minusOne_any u w1 u0 u1).mono ?_;rintro e w2 ⟨Am,cm,rfl,hp2,hb2⟩
  have HM:=hid (opSt (cm:=cm) HE.out al HS1.out HO1.out HEN.out hp2 hb2)
  clear hp2 hb2 HALL HLS HS1 HO1 HEN c1 c3 cl
  have hlen:tss.length=2:=by rw [HL.out,HLN.out]
  obtain ⟨b1,o1,Aa,ca,Ab,cb,rfl,hb1,hPa,hoa,hsec,hcell⟩:=HM.out.env.two (by omega)
  have l0:(0:Int)<(x.ks.len:Int):=by rw [HLN.out];omega
  have l0n:0<x.ks.len:=by rw [HLN.out];omega
  have l1:(1:Int)<(x.ks.len:Int):=by rw [HLN.out];omega
  have l1n:1<x.ks.len:=by rw [HLN.out];omega
  obtain ⟨hPb,hob⟩:=hsec (by omega)
  have HCELL:Hid (∀ w',OnlyH (privS S (w.heap.size+1)) (w2.alloc (.cells #[.int .i64 u,.slice Am 1 cm] 86)) w'→w'.cell? ⟨b1,o1,none⟩=some (.int .i64 u)∧w'.cell? ⟨b1,o1+1,none⟩=some (.slice Aa (tss.getD 0 []).length ca)∧w'.cell? ⟨b1,o1+2,none⟩=some (.int .i64 u)∧w'.cell? ⟨b1,o1+2+1,none⟩=some (.slice Ab (tss.getD 1 []).length cb)):=fun w' ho=>⟨(hcell w' ho).1,(hcell w' ho).2.1,(hcell w' ho).2.2 (by omega)⟩
  have HPB:=hid (And.intro hPb hob)
  clear hPb hob
  have HPA:=hid (And.intro hPa hoa)
  have x0:(w2.alloc (.cells #[.int .i64 u,.slice Am 1 cm] 86)).cell? ⟨w.heap.size,0,none⟩=some (.int .i64 4):=by rw [HM.out.bx.cell];rfl
  have HAS:Hid (∀ zs s1,pvAll (pv u P f) env x.ks (t+1)=.ok zs s1→zs=tss∧s1=t1):=fun zs s1 h=>by rw [HEV.out] at h;injection h with h1 h2;exact ⟨h1.symm,h2.symm⟩
  have HRV:Hid (rr=limT u (nfT (tss.getD 0 []++sclT 1000002 (tss.getD 1 []))) t1):=by show _=_;rw [HRR.out,HEV.out]
  clear hPa hoa hsec hcell HRR HEV
  obtain ⟨za,hza⟩:∃ z,z=tss.getD 0 []:=⟨_,rfl⟩
  obtain ⟨zb,hzb⟩:∃ z,z=tss.getD 1 []:=⟨_,rfl⟩
  rw [←hza] at HPA HCELL
  rw [←hza] at HRV
  rw [←hzb] at HPB HCELL HRV
  have HZ:=hid (And.intro hza hzb)
  clear hza hzb
  go_upto_region 34 with fail
  change Code.wp _ _ _ _ (w2.alloc (.cells #[.int .i64 u,.slice Am 1 cm] 86))
  generalize w2.alloc (.cells #[.int .i64 u,.slice Am 1 cm] 86)=W at *
  generalize w2.heap.size=bm at *
  clear x0
  have hd:Below W.heap.size W W.drew:=(Below.refl _ _).drew
  have HMB:Hid (∀ w',Only (fun q=>q=bv) W w'→w'.cell? ⟨bm,0,none⟩=some (.int .i64 u)∧w'.cell? ⟨bm,1,none⟩=some (.slice Am 1 cm)):=fun w' ho=>by
   have h:=only_cells HM.out.mb ho (by have:=HM.out.ml;omega)
   exact ⟨by rw [h.cell];rfl,by rw [h.cell];rfl⟩
  have HSB:Hid (∀ w',Only (fun q=>q=bv) W w'→OnlyH (privS S (w.heap.size+1)) W w'):=fun w' ho=>(ho.sub (T:=privS S (w.heap.size+1)) fun q e=>by rw [e];exact HM.out.si.bv).h
  obtain ⟨na,hna⟩:∃ n,n=za.length:=⟨_,rfl⟩
  obtain ⟨nb,hnb⟩:∃ n,n=zb.length:=⟨_,rfl⟩
  have HOP:=hid (tkC (ca:=cb) (cb:=cm) ((HPB.out.1.only (Only.of_below hd)).now) ((HM.out.mp.only (Only.of_below hd)).now) HPB.out.2 (zeroE_ok u0 u1) (by omega) (by omega) 1 (show 1=(constT u 1000002).length by rw [constT_one (by omega)];rfl))
  rw [←hnb] at HOP
  have HNA:=hid (And.intro hna hnb)
  clear hna hnb
  refine RegE.start (S:=fun wx=>wx.cell? ⟨b1,o1,none⟩=some (.int .i64 u)∧wx.cell? ⟨b1,o1+1,none⟩=some (.slice Aa na ca)∧wx.cell? ⟨b1,o1+2,none⟩=some (.int .i64 u)∧wx.cell? ⟨b1,o1+2+1,none⟩=some (.slice Ab nb cb)∧wx.cell? ⟨bm,0,none⟩=some (.int .i64 u)∧wx.cell? ⟨bm,1,none⟩=some (.slice Am 1 cm)) 11 (by kernel_rfl) (by kernel_rfl) ?Sa0 (fun hHeld hB=>?_)
  case Sa0=>((try dsimp only);exact (by have h1:=HCELL.out W.drew (HSB.out _ (Only.of_below hd));rw [←HNA.out.1,←HNA.out.2] at h1;have h2:=HMB.out W.drew (Only.of_below hd);exact ⟨h1.1,h1.2.1,h1.2.2.1,h1.2.2.2,h2.1,h2.2⟩))
  refine RegE.takeL (S:=fun wx=>wx.cell? ⟨b1,o1,none⟩=some (.int .i64 u)∧wx.cell? ⟨b1,o1+1,none⟩=some (.slice Aa na ca)∧wx.cell? ⟨b1,o1+2,none⟩=some (.int .i64 u)∧wx.cell? ⟨b1,o1+2+1,none⟩=some (.slice Ab nb cb)∧wx.cell? ⟨bm,0,none⟩=some (.int .i64 u)∧wx.cell? ⟨bm,1,none⟩=some (.slice Am 1 cm)) (i:=0) (v:=?va0) hB rfl (by decide) (by kernel_rfl) (by kernel_rfl) (fun _ _ _ h=>h) (Or.inl ⟨by rfl, ?ya0⟩) hHeld ?ra0
  case ya0=>((intro w hSw;(try dsimp only at hSw);go_simp)<;>with_reducible rfl)
  (try simp only [Act.put,List.setIfInBounds_toArray,List.set_cons_zero,List.set_cons_succ])
  refine RegE.takeL (S:=fun wx=>wx.cell? ⟨b1,o1,none⟩=some (.int .i64 u)∧wx.cell? ⟨b1,o1+1,none⟩=some (.slice Aa na ca)∧wx.cell? ⟨b1,o1+2,none⟩=some (.int .i64 u)∧wx.cell? ⟨b1,o1+2+1,none⟩=some (.slice Ab nb cb)∧wx.cell? ⟨bm,0,none⟩=some (.int .i64 u)∧wx.cell? ⟨bm,1,none⟩=some (.slice Am 1 cm)) (i:=1) (v:=?va1) hB rfl (by decide) (by kernel_rfl) (by kernel_rfl) (fun _ _ _ h=>h) (Or.inl ⟨by rfl, ?ya1⟩) hHeld ?ra1
  case ya1=>((intro w hSw;(try dsimp only at hSw);go_simp)<;>with_reducible rfl)
  (try simp only [Act.put,List.setIfInBounds_toArray,List.set_cons_zero,List.set_cons_succ])
  refine RegE.takeL (S:=fun wx=>wx.cell? ⟨b1,o1,none⟩=some (.int .i64 u)∧wx.cell? ⟨b1,o1+1,none⟩=some (.slice Aa na ca)∧wx.cell? ⟨b1,o1+2,none⟩=some (.int .i64 u)∧wx.cell? ⟨b1,o1+2+1,none⟩=some (.slice Ab nb cb)∧wx.cell? ⟨bm,0,none⟩=some (.int .i64 u)∧wx.cell? ⟨bm,1,none⟩=some (.slice Am 1 cm)) (i:=2) (v:=?va2) hB rfl (by decide) (by kernel_rfl) (by kernel_rfl) (fun _ _ _ h=>h) (Or.inl ⟨by rfl, ?ya2⟩) hHeld ?ra2
  case ya2=>((intro w hSw;(try dsimp only at hSw);go_simp)<;>with_reducible rfl)
  (try simp only [Act.put,List.setIfInBounds_toArray,List.set_cons_zero,List.set_cons_succ])
  refine RegE.takeL (S:=fun wx=>wx.cell? ⟨b1,o1,none⟩=some (.int .i64 u)∧wx.cell? ⟨b1,o1+1,none⟩=some (.slice Aa na ca)∧wx.cell? ⟨b1,o1+2,none⟩=some (.int .i64 u)∧wx.cell? ⟨b1,o1+2+1,none⟩=some (.slice Ab nb cb)∧wx.cell? ⟨bm,0,none⟩=some (.int .i64 u)∧wx.cell? ⟨bm,1,none⟩=some (.slice Am 1 cm)) (i:=3) (v:=?va3) hB rfl (by decide) (by kernel_rfl) (by kernel_rfl) (fun _ _ _ h=>h) (Or.inl ⟨by rfl, ?ya3⟩) hHeld ?ra3
  case ya3=>((intro w hSw;(try dsimp only at hSw);go_simp)<;>with_reducible rfl)
  (try simp only [Act.put,List.setIfInBounds_toArray,List.set_cons_zero,List.set_cons_succ])
  refine RegE.takeL (S:=fun wx=>wx.cell? ⟨b1,o1,none⟩=some (.int .i64 u)∧wx.cell? ⟨b1,o1+1,none⟩=some (.slice Aa na ca)∧wx.cell? ⟨b1,o1+2,none⟩=some (.int .i64 u)∧wx.cell? ⟨b1,o1+2+1,none⟩=some (.slice Ab nb cb)∧wx.cell? ⟨bm,0,none⟩=some (.int .i64 u)∧wx.cell? ⟨bm,1,none⟩=some (.slice Am 1 cm)) (i:=4) (v:=?va4) hB rfl (by decide) (by kernel_rfl) (by kernel_rfl) (fun _ _ _ h=>h) (Or.inl ⟨by rfl, ?ya4⟩) hHeld ?ra4
  case ya4=>((intro w hSw;(try dsimp only at hSw);go_simp)<;>with_reducible rfl)
  (try simp only [Act.put,List.setIfInBounds_toArray,List.set_cons_zero,List.set_cons_succ])
  refine RegE.takeL (S:=fun wx=>wx.cell? ⟨b1,o1,none⟩=some (.int .i64 u)∧wx.cell? ⟨b1,o1+1,none⟩=some (.slice Aa na ca)∧wx.cell? ⟨b1,o1+2,none⟩=some (.int .i64 u)∧wx.cell? ⟨b1,o1+2+1,none⟩=some (.slice Ab nb cb)∧wx.cell? ⟨bm,0,none⟩=some (.int .i64 u)∧wx.cell? ⟨bm,1,none⟩=some (.slice Am 1 cm)) (i:=5) (v:=?va5) hB rfl (by decide) (by kernel_rfl) (by kernel_rfl) (fun _ _ _ h=>h) (Or.inl ⟨by rfl, ?ya5⟩) hHeld ?ra5
  case ya5=>((intro w hSw;(try dsimp only at hSw);go_simp)<;>with_reducible rfl)
  (try simp only [Act.put,List.setIfInBounds_toArray,List.set_cons_zero,List.set_cons_succ])
  refine RegE.takeL (S:=fun wx=>wx.cell? ⟨b1,o1,none⟩=some (.int .i64 u)∧wx.cell? ⟨b1,o1+1,none⟩=some (.slice Aa na ca)∧wx.cell? ⟨b1,o1+2,none⟩=some (.int .i64 u)∧wx.cell? ⟨b1,o1+2+1,none⟩=some (.slice Ab nb cb)∧wx.cell? ⟨bm,0,none⟩=some (.int .i64 u)∧wx.cell? ⟨bm,1,none⟩=some (.slice Am 1 cm)) (i:=6) (v:=?va6) hB rfl (by decide) (by kernel_rfl) (by kernel_rfl) (fun _ _ _ h=>h) (Or.inl ⟨by rfl, ?ya6⟩) hHeld ?ra6
  case ya6=>((intro w hSw;(try dsimp only at hSw);go_simp)<;>with_reducible rfl)
  (try simp only [Act.put,List.setIfInBounds_toArray,List.set_cons_zero,List.set_cons_succ])
  refine RegE.takeL (S:=fun wx=>wx.cell? ⟨b1,o1,none⟩=some (.int .i64 u)∧wx.cell? ⟨b1,o1+1,none⟩=some (.slice Aa na ca)∧wx.cell? ⟨b1,o1+2,none⟩=some (.int .i64 u)∧wx.cell? ⟨b1,o1+2+1,none⟩=some (.slice Ab nb cb)∧wx.cell? ⟨bm,0,none⟩=some (.int .i64 u)∧wx.cell? ⟨bm,1,none⟩=some (.slice Am 1 cm)) (i:=7) (v:=?va7) hB rfl (by decide) (by kernel_rfl) (by kernel_rfl) (fun _ _ _ h=>h) (Or.inl ⟨by rfl, ?ya7⟩) hHeld ?ra7
  case ya7=>((intro w hSw;(try dsimp only at hSw);go_simp)<;>with_reducible rfl)
  (try simp only [Act.put,List.setIfInBounds_toArray,List.set_cons_zero,List.set_cons_succ])
  refine RegE.stepL (i:=8) rfl (by decide) (by kernel_rfl) (fun K hK=>?_)
  go_simp
  go_at_call 134
  refine HOP.out.mono ?_
  rintro e w3 ⟨A5,c5,rfl,hR3,hb3⟩
  have hbW:Below W.heap.size W w3:=hd.trans (hb3.mono (Nat.le_refl _))
  have hO3:Only (fun q=>q=bv) W w3:=Only.of_below hbW
  have HPL:=hid (show Calls _ _ _ _ _ from plC (rr:=rr) (ca:=ca) (cb:=c5) HM.out al hbW ((HPA.out.1.only (Only.of_below hbW)).now) (regTms hR3 (polyOk_totT (polyOk_scl HPB.out.2 (by omega) (by omega)))) HPA.out.2 (polyOk_scl HPB.out.2 (by omega) (by omega)) HRV.out)
  rw [←HNA.out.1] at HPL
  generalize (sclT 1000002 zb).length=n5 at *
  refine hK.out _ _ ?Sa8 (fun hHeldN=>?_)
  case Sa8=>((try dsimp only);exact (by have h1:=HCELL.out _ (HSB.out _ hO3);rw [←HNA.out.1,←HNA.out.2] at h1;have h2:=HMB.out _ hO3;exact ⟨h1.1,h1.2.1,h1.2.2.1,h1.2.2.2,h2.1,h2.2⟩))
  clear hK K hHeld
  have hHeld:=hHeldN
  clear hHeldN
  (try simp only [Act.put,List.setIfInBounds_toArray,List.set_cons_zero,List.set_cons_succ])
  refine RegE.stepL (i:=9) rfl (by decide) (by kernel_rfl) (fun K hK=>?_)
  go_simp
  go_at_call 133
  refine HPL.out.mono ?_
  rintro e w5 ⟨A6,n6,c6,rfl,hb5,hVA⟩
  have HVA:=hid (show Calls _ _ _ _ _ from hVA)
  have hO5:Only (fun q=>q=bv) W w5:=hO3.trans (Only.of_below hb5)
  refine hK.out _ _ ?Sa9 (fun hHeldN=>?_)
  case Sa9=>((try dsimp only);exact (by have h1:=HCELL.out _ (HSB.out _ hO5);rw [←HNA.out.1,←HNA.out.2] at h1;have h2:=HMB.out _ hO5;exact ⟨h1.1,h1.2.1,h1.2.2.1,h1.2.2.2,h2.1,h2.2⟩))
  clear hK K hHeld
  have hHeld:=hHeldN
  clear hHeldN
  (try simp only [Act.put,List.setIfInBounds_toArray,List.set_cons_zero,List.set_cons_succ])
  refine RegE.stepL (i:=10) rfl (by decide) (by kernel_rfl) (fun K hK=>?_)
  go_simp
  go_at_call 235
  refine HVA.out.mono ?_
  rintro e w4 ⟨A3,n3,cp3,rfl,hEnd,hO4,hC4⟩
  refine hK.out _ _ ?Sa10 (fun hHeldN=>?_)
  case Sa10=>((try dsimp only);exact (by have h1:=HCELL.out _ (HSB.out _ (hO5.trans hO4));rw [←HNA.out.1,←HNA.out.2] at h1;have h2:=HMB.out _ (hO5.trans hO4);exact ⟨h1.1,h1.2.1,h1.2.2.1,h1.2.2.2,h2.1,h2.2⟩))
  clear hK K hHeld
  have hHeld:=hHeldN
  clear hHeldN
  (try simp only [Act.put,List.setIfInBounds_toArray,List.set_cons_zero,List.set_cons_succ])
  obtain ⟨⟨k0,k1,q0,q1'⟩,⟨y0,y1⟩,HE2⟩:=hEnd
  refine RegE.lastL rfl (by kernel_rfl) (by kernel_rfl) (fun K hK=>?_)
  go_simp
  refine hK.out _ _ ?_
  clear hK K
  clear hC4 hO3 hO4 hO5 hb3 hb5 hbW hR3 hVA
  have HE3:=hid HE2
  clear HE2
  go_wp2
  refine bodyPost_ret (v:=poV u A3 n3 cp3) (by simp [results,Tryz.results176,go_sem,y0,y1]) rfl ?_
  exact HE3.out
 ·have HB:=hid (pvAC_bad HRES.out hc rfl)
  have hc1:(c' != 0)=true:=by simpa using hc
  have hD:=deadP (S:=S) (rr:=rr) HS1.out (HE.out.only.trans HO1.out) (by rw [HRR.out,HB.out]) u0 u1 al (only_cells HE.out.rb HO1.out (by omega))
  obtain ⟨⟨k0,k1,q0,q1⟩,⟨y0,y1⟩,HE2⟩:=hD
  have HE3:=hid HE2
  clear HE2 HS1 HO1 HEN HRES HALL HLS hl hc
  go_wp2
  refine bodyPost_ret (v:=poV u none 0 0) (by simp [results,Tryz.results176,go_sem,y0,y1]) rfl ?_
  exact HE3.out
theorem poly_op7 (P:List Fn) (x:Nd) (u:Int) (f:Nat) (IH:PolyC P u f) (env:List (List Term')) (t:Nat) (fn:Int) (K:Option Addr) (cap B:Nat) (S:Nat→Prop) (bv:Nat) (A PA:Option Addr) (ecap pcap:Nat) (w:World) (hI:EvIn w B bv 1 P PA pcap) (hS:SIn w B S bv u) (hst:Cells w bv 168 (hdP u P PA pcap++[.int .i64 t,.int .i64 0])) (hN:NdInP w B S u P fn x K cap A env ecap) (hk:x.k=7) (hs:t<3000) (hf:3001≤t+(f+1)) :
  Calls Tryz.prog 176 #[.pointer (some ⟨bv,0,none⟩),exV x.k x.n x.p x.c K x.ks.len cap,.slice A env.length ecap] w (PPost S bv u 168 (hdP u P PA pcap) (pv u P (f+1) x env t) w):=by
 have HEV:Hid (pv u P (f+1) x env t=match pvAll (pv u P f) env x.ks (t+1) with | .err e=>.err e | .ok zs s1=>(.ok (sclT 1000002 (zs.getD 0 [])) s1)):=by
  show _=_
  rw [pv,if_neg (by omega),if_neg (by omega),if_neg (by omega),if_neg (by omega),if_neg (by omega)]
  cases pvAll (pv u P f) env x.ks (t+1) with
  | err e=>rfl
  | ok zs s1=>simp only;rw [if_neg (by omega)];rw [if_neg (by omega)];unfold pvOp;rw [if_neg (by omega)];rw [if_neg (by omega)];rw [if_neg (by omega)];rw [if_pos hk]
 obtain ⟨rr,hrr⟩:∃ rr,rr=pv u P (f+1) x env t:=⟨_,rfl⟩
 rw [←hrr]
 have HRR:=hid (hrr.trans HEV.out)
 clear HEV hrr
 have HALL:=hid (polyAll_of P u f IH)
 have al:=hI.lt
 have hB:=hI.blow
 have u0:=hS.u0
 have u1:=hS.u1
 have a1:w.cell? ⟨bv,1,none⟩=some (.int .i64 u):=by rw [hst.cell];rfl
 have a2:w.cell? ⟨bv,2,none⟩=some (.int .i64 t):=by rw [hst.cell];rfl
 have a3:w.cell? ⟨bv,3,none⟩=some (.int .i64 0):=by rw [hst.cell];rfl
 have z2:w.frozen? ⟨bv,2,none⟩=false:=hst.frozen _
 have e1:((t:Int)==3000)=false:=by simp;omega
 have hE:=pvStep hI hS hst 7 x.n x.p x.c K x.ks.len cap
 have hoS:Only S w (pvW w bv t 7 x.n x.p x.c K x.ks.len cap):=hE.only.sub fun q e=>by rw [e];exact hS.bv
 have HLS:=hid (LsInP.of (g:=w.heap.size+1) hN hoS (only_below hE.only hB al) (by omega) (by omega))
 have HE:=hid hE
 have HN:=hid hN
 have HSI:=hid hS
 have HIH:=hid IH
 have HLN:=hid (formed_opN (N:=1) hN.form (by rw [hk];exact .inr (.inl ⟨rfl,rfl⟩)))
 clear hI hst hE hN hS IH hoS
 have HKK:=hid hk
 rw [hk]
 clear hk
 go_enter Tryz.func176,Tryz.ntmps176
 go_wp2_with fail
 refine (HALL.out x.ks env ((t+1:Nat):Int) (t+1) 0 fn K cap B (privS S (w.heap.size+1)) bv A PA ecap pcap _ HE.out.ev HE.out.si HE.out.st (fun _=>⟨rfl,by omega,by omega⟩) HLS.out).mono ?_;rintro e w1 ⟨A1,cp,tss,s',c',rfl,hl,hcp,hcm,hEn,hS1,hO1,hres⟩
 have c3:w1.cell? ⟨bv,3,none⟩=some (.int .i64 c'):=by rw [hS1.cell];rfl
 have c1:w1.cell? ⟨bv,1,none⟩=some (.int .i64 u):=by rw [hS1.cell];rfl
 have cl:=hS1.lt
 have HS1:=hid hS1
 have HO1:=hid hO1
 have HEN:=hid hEn
 have HL:=hid hl
 have HRES:=hid hres
 clear hS1 hO1 hEn hres
 by_cases hc:c'=0
 ·have hRES:=pvAC_next HRES.out hc
  subst hc
  obtain ⟨t1,hs1,_,ht1,hev⟩:=hRES.2
  subst hs1
  have HEV:=hid hev
  have HT1:Hid (t1≤3000):=ht1 (by omega)
  have HT2:Hid (t<t1):=by show _<_;omega
  clear hRES hev ht1 HRES
  go_wp2_with fail
  refine (minusOne_any u w1 u0 u1).mono ?_;rintro e w2 ⟨Am,cm,rfl,hp2,hb2⟩
  have HM:=hid (opSt (cm:=cm) HE.out al HS1.out HO1.out HEN.out hp2 hb2)
  clear hp2 hb2 HALL HLS HS1 HO1 HEN c1 c3 cl
  have hlen:tss.length=1:=by rw [HL.out,HLN.out]
  obtain ⟨b1,o1,Aa,ca,Ab,cb,rfl,hb1,hPa,hoa,hsec,hcell⟩:=HM.out.env.two (by omega)
  have l0:(0:Int)<(x.ks.len:Int):=by rw [HLN.out];omega
  have l0n:0<x.ks.len:=by rw [HLN.out];omega
  have HCELL:Hid (∀ w',OnlyH (privS S (w.heap.size+1)) (w2.alloc (.cells #[.int .i64 u,.slice Am 1 cm] 86)) w'→w'.cell? ⟨b1,o1,none⟩=some (.int .i64 u)∧w'.cell? ⟨b1,o1+1,none⟩=some (.slice Aa (tss.getD 0 []).length ca)):=fun w' ho=>⟨(hcell w' ho).1,(hcell w' ho).2.1⟩
  have HPA:=hid (And.intro hPa hoa)
  have x0:(w2.alloc (.cells #[.int .i64 u,.slice Am 1 cm] 86)).cell? ⟨w.heap.size,0,none⟩=some (.int .i64 7):=by rw [HM.out.bx.cell];rfl
  have HAS:Hid (∀ zs s1,pvAll (pv u P f) env x.ks (t+1)=.ok zs s1→zs=tss∧s1=t1):=fun zs s1 h=>by rw [HEV.out] at h;injection h with h1 h2;exact ⟨h1.symm,h2.symm⟩
  have HRV:Hid (rr=(.ok (sclT 1000002 (tss.getD 0 [])) t1)):=by show _=_;rw [HRR.out,HEV.out]
  clear hPa hoa hsec hcell HRR HEV
  obtain ⟨za,hza⟩:∃ z,z=tss.getD 0 []:=⟨_,rfl⟩
  obtain ⟨zb,hzb⟩:∃ z,z=tss.getD 1 []:=⟨_,rfl⟩
  rw [←hza] at HPA HCELL
  rw [←hza] at HRV
  have HZ:=hid (And.intro hza hzb)
  clear hza hzb
  go_upto_region 38 with fail
  change Code.wp _ _ _ _ (w2.alloc (.cells #[.int .i64 u,.slice Am 1 cm] 86))
  generalize w2.alloc (.cells #[.int .i64 u,.slice Am 1 cm] 86)=W at *
  generalize w2.heap.size=bm at *
  clear x0
  have hd:Below W.heap.size W W.drew:=(Below.refl _ _).drew
  have HMB:Hid (∀ w',Only (fun q=>q=bv) W w'→w'.cell? ⟨bm,0,none⟩=some (.int .i64 u)∧w'.cell? ⟨bm,1,none⟩=some (.slice Am 1 cm)):=fun w' ho=>by
   have h:=only_cells HM.out.mb ho (by have:=HM.out.ml;omega)
   exact ⟨by rw [h.cell];rfl,by rw [h.cell];rfl⟩
  have HSB:Hid (∀ w',Only (fun q=>q=bv) W w'→OnlyH (privS S (w.heap.size+1)) W w'):=fun w' ho=>(ho.sub (T:=privS S (w.heap.size+1)) fun q e=>by rw [e];exact HM.out.si.bv).h
  obtain ⟨na,hna⟩:∃ n,n=za.length:=⟨_,rfl⟩
  obtain ⟨nb,hnb⟩:∃ n,n=zb.length:=⟨_,rfl⟩
  have HOP:=hid (tkC (ca:=ca) (cb:=cm) ((HPA.out.1.only (Only.of_below hd)).now) ((HM.out.mp.only (Only.of_below hd)).now) HPA.out.2 (zeroE_ok u0 u1) (by omega) (by omega) 1 (show 1=(constT u 1000002).length by rw [constT_one (by omega)];rfl))
  rw [←hna] at HOP
  have HNA:=hid (And.intro hna hnb)
  clear hna hnb
  refine RegE.start (S:=fun wx=>wx.cell? ⟨b1,o1,none⟩=some (.int .i64 u)∧wx.cell? ⟨b1,o1+1,none⟩=some (.slice Aa na ca)∧wx.cell? ⟨bm,0,none⟩=some (.int .i64 u)∧wx.cell? ⟨bm,1,none⟩=some (.slice Am 1 cm)) 7 (by kernel_rfl) (by kernel_rfl) ?Sa0 (fun hHeld hB=>?_)
  case Sa0=>((try dsimp only);exact (by have h1:=HCELL.out W.drew (HSB.out _ (Only.of_below hd));rw [←HNA.out.1] at h1;have h2:=HMB.out W.drew (Only.of_below hd);exact ⟨h1.1,h1.2,h2.1,h2.2⟩))
  refine RegE.takeL (S:=fun wx=>wx.cell? ⟨b1,o1,none⟩=some (.int .i64 u)∧wx.cell? ⟨b1,o1+1,none⟩=some (.slice Aa na ca)∧wx.cell? ⟨bm,0,none⟩=some (.int .i64 u)∧wx.cell? ⟨bm,1,none⟩=some (.slice Am 1 cm)) (i:=0) (v:=?va0) hB rfl (by decide) (by kernel_rfl) (by kernel_rfl) (fun _ _ _ h=>h) (Or.inl ⟨by rfl, ?ya0⟩) hHeld ?ra0
  case ya0=>((intro w hSw;(try dsimp only at hSw);go_simp)<;>with_reducible rfl)
  (try simp only [Act.put,List.setIfInBounds_toArray,List.set_cons_zero,List.set_cons_succ])
  refine RegE.takeL (S:=fun wx=>wx.cell? ⟨b1,o1,none⟩=some (.int .i64 u)∧wx.cell? ⟨b1,o1+1,none⟩=some (.slice Aa na ca)∧wx.cell? ⟨bm,0,none⟩=some (.int .i64 u)∧wx.cell? ⟨bm,1,none⟩=some (.slice Am 1 cm)) (i:=1) (v:=?va1) hB rfl (by decide) (by kernel_rfl) (by kernel_rfl) (fun _ _ _ h=>h) (Or.inl ⟨by rfl, ?ya1⟩) hHeld ?ra1
  case ya1=>((intro w hSw;(try dsimp only at hSw);go_simp)<;>with_reducible rfl)
  (try simp only [Act.put,List.setIfInBounds_toArray,List.set_cons_zero,List.set_cons_succ])
  refine RegE.takeL (S:=fun wx=>wx.cell? ⟨b1,o1,none⟩=some (.int .i64 u)∧wx.cell? ⟨b1,o1+1,none⟩=some (.slice Aa na ca)∧wx.cell? ⟨bm,0,none⟩=some (.int .i64 u)∧wx.cell? ⟨bm,1,none⟩=some (.slice Am 1 cm)) (i:=2) (v:=?va2) hB rfl (by decide) (by kernel_rfl) (by kernel_rfl) (fun _ _ _ h=>h) (Or.inl ⟨by rfl, ?ya2⟩) hHeld ?ra2
  case ya2=>((intro w hSw;(try dsimp only at hSw);go_simp)<;>with_reducible rfl)
  (try simp only [Act.put,List.setIfInBounds_toArray,List.set_cons_zero,List.set_cons_succ])
  refine RegE.takeL (S:=fun wx=>wx.cell? ⟨b1,o1,none⟩=some (.int .i64 u)∧wx.cell? ⟨b1,o1+1,none⟩=some (.slice Aa na ca)∧wx.cell? ⟨bm,0,none⟩=some (.int .i64 u)∧wx.cell? ⟨bm,1,none⟩=some (.slice Am 1 cm)) (i:=3) (v:=?va3) hB rfl (by decide) (by kernel_rfl) (by kernel_rfl) (fun _ _ _ h=>h) (Or.inl ⟨by rfl, ?ya3⟩) hHeld ?ra3
  case ya3=>((intro w hSw;(try dsimp only at hSw);go_simp)<;>with_reducible rfl)
  (try simp only [Act.put,List.setIfInBounds_toArray,List.set_cons_zero,List.set_cons_succ])
  refine RegE.takeL (S:=fun wx=>wx.cell? ⟨b1,o1,none⟩=some (.int .i64 u)∧wx.cell? ⟨b1,o1+1,none⟩=some (.slice Aa na ca)∧wx.cell? ⟨bm,0,none⟩=some (.int .i64 u)∧wx.cell? ⟨bm,1,none⟩=some (.slice Am 1 cm)) (i:=4) (v:=?va4) hB rfl (by decide) (by kernel_rfl) (by kernel_rfl) (fun _ _ _ h=>h) (Or.inl ⟨by rfl, ?ya4⟩) hHeld ?ra4
  case ya4=>((intro w hSw;(try dsimp only at hSw);go_simp)<;>with_reducible rfl)
  (try simp only [Act.put,List.setIfInBounds_toArray,List.set_cons_zero,List.set_cons_succ])
  refine RegE.stepL (i:=5) rfl (by decide) (by kernel_rfl) (fun K hK=>?_)
  go_simp
  go_at_call 134
  refine HOP.out.mono ?_
  rintro e w3 ⟨A5,c5,rfl,hR3,hb3⟩
  have hbW:Below W.heap.size W w3:=hd.trans (hb3.mono (Nat.le_refl _))
  have hO3:Only (fun q=>q=bv) W w3:=Only.of_below hbW
  have hsc:=polyOk_scl (k:=1000002) HPA.out.2 (by omega) (by omega)
  have HVA:=hid (show Calls _ _ _ _ _ from vaC (rr:=rr) (c3:=c5) HM.out al hbW hR3 (Nat.le_refl _) (by have:=(polyOk_size hsc).2.2;omega) (by have:=(totT_valid hsc).2;omega) (by rw [HRV.out,limT_scl HPA.out.2 (by omega) (by omega)]))
  generalize (sclT 1000002 za).length=n5 at *
  refine hK.out _ _ ?Sa5 (fun hHeldN=>?_)
  case Sa5=>((try dsimp only);exact (by have h1:=HCELL.out _ (HSB.out _ hO3);rw [←HNA.out.1] at h1;have h2:=HMB.out _ hO3;exact ⟨h1.1,h1.2,h2.1,h2.2⟩))
  clear hK K hHeld
  have hHeld:=hHeldN
  clear hHeldN
  (try simp only [Act.put,List.setIfInBounds_toArray,List.set_cons_zero,List.set_cons_succ])
  refine RegE.stepL (i:=6) rfl (by decide) (by kernel_rfl) (fun K hK=>?_)
  go_simp
  go_at_call 235
  refine HVA.out.mono ?_
  rintro e w4 ⟨A3,n3,cp3,rfl,hEnd,hO4,hC4⟩
  refine hK.out _ _ ?Sa6 (fun hHeldN=>?_)
  case Sa6=>((try dsimp only);exact (by have h1:=HCELL.out _ (HSB.out _ (hO3.trans hO4));rw [←HNA.out.1] at h1;have h2:=HMB.out _ (hO3.trans hO4);exact ⟨h1.1,h1.2,h2.1,h2.2⟩))
  clear hK K hHeld
  have hHeld:=hHeldN
  clear hHeldN
  (try simp only [Act.put,List.setIfInBounds_toArray,List.set_cons_zero,List.set_cons_succ])
  obtain ⟨⟨k0,k1,q0,q1'⟩,⟨y0,y1⟩,HE2⟩:=hEnd
  refine RegE.lastL rfl (by kernel_rfl) (by kernel_rfl) (fun K hK=>?_)
  go_simp
  refine hK.out _ _ ?_
  clear hK K
  clear hC4 hO3 hO4 hb3 hbW hR3 hsc
  have HE3:=hid HE2
  clear HE2
  go_wp2
  refine bodyPost_ret (v:=poV u A3 n3 cp3) (by simp [results,Tryz.results176,go_sem,y0,y1]) rfl ?_
  exact HE3.out
 ·have HB:=hid (pvAC_bad HRES.out hc rfl)
  have hc1:(c' != 0)=true:=by simpa using hc
  have hD:=deadP (S:=S) (rr:=rr) HS1.out (HE.out.only.trans HO1.out) (by rw [HRR.out,HB.out]) u0 u1 al (only_cells HE.out.rb HO1.out (by omega))
  obtain ⟨⟨k0,k1,q0,q1⟩,⟨y0,y1⟩,HE2⟩:=hD
  have HE3:=hid HE2
  clear HE2 HS1 HO1 HEN HRES HALL HLS hl hc
  go_wp2
  refine bodyPost_ret (v:=poV u none 0 0) (by simp [results,Tryz.results176,go_sem,y0,y1]) rfl ?_
  exact HE3.out
end
end Go.Proofs.YtgfkglhelfkpoaaGreat
