/- Texts put together: WQv4, WQv5. -/
import Derived.Test.YtgfkglhelfkpoaaGreatRPE
import Derived.Test.YtgfkglhelfkpoaaGreatRSU
set_option maxRecDepth 100000
set_option maxHeartbeats 2000000
open Go.Lib (hid)
namespace Go.Proofs.YtgfkglhelfkpoaaGreat
section
open Go.RowKit Plain
theorem addOkQ {u:Int} {a b:List Term'} (h1:polyOk u a=true) (h2:polyOk u b=true):polyOk u (nfT (a++b))=decide ((nfT (a++b)).length≤120):=by
 have hs:=polyOk_size h1
 exact form_ok (inR_yes hs.1 hs.2.1) (nfT_canon _) (nfT_cof _) fun x hx=>by
  rcases List.mem_append.1 hx with h | h
  ·exact ⟨x,polyOk_mem h1 h,rfl⟩
  ·exact ⟨x,polyOk_mem h2 h,rfl⟩
noncomputable def binR (u k:Int):Res (List (List Term'))→Res (List Term')
 | .err e=>.err e
 | .ok zs s1=>pvOp u k (zs.getD 0 []) (zs.getD 1 []) s1
theorem told_good {u:Int} {R:List Term'} {t:Nat} {rr:Res (List Term')} (hdec:polyOk u R=decide (R.length≤120)) (hrr:rr=limT u R t):(R.length≤120→polyOk u R=true∧ResIs rr R (t:Int) 0)∧(¬ R.length≤120→rr=.err (failC 0 3)):=by
 refine ⟨fun hl=>?_,fun hn=>?_⟩
 ·have h:polyOk u R=true:=by rw [hdec];exact decide_eq_true hl
  refine ⟨h, ?_⟩
  rw [hrr]
  unfold limT
  rw [if_pos h]
  exact ⟨rfl,rfl,rfl⟩
 ·have h:polyOk u R=false:=by rw [hdec];exact decide_eq_false hn
  rw [hrr]
  unfold limT
  rw [if_neg (by rw [h];simp)]
  rfl
theorem told_mul {u:Int} {za zb R:List Term'} {ok:Bool} {t:Nat} {rr:Res (List Term')} (h1:polyOk u za=true) (h2:polyOk u zb=true) (hm:mulP za zb=(R,ok)) (hrr:rr=limT u (nfT (prods za zb)) t):(ok=true→R.length≤120→polyOk u R=true∧ResIs rr R (t:Int) 0)∧(¬ (ok=true∧R.length≤120)→rr=.err (failC 0 3))∧R.length≤1048576∧totT R≤1048576:=by
 by_cases hb:bigP za zb
 ·rw [mulP_big hb] at hm
  injection hm with e1 e2
  subst e1 e2
  refine ⟨fun h=>by simp at h,fun _=>?_,by simp,by simp [totT,tot]⟩
  rw [hrr]
  unfold limT
  rw [if_neg (by rw [mulBig h1 h2 hb];simp)]
  rfl
 ·rw [mulP_ok hb] at hm
  injection hm with e1 e2
  subst e1 e2
  have:=bdMul h1 h2
  have hg:=told_good (mulOk h1 h2 hb) hrr
  exact ⟨fun _ hl=>hg.1 hl,fun hn=>hg.2 fun hl=>hn ⟨rfl,hl⟩,by omega,this.2⟩
theorem binaryQ (P:List Fn) (x:Nd) (u:Int) (f:Nat) (IH:ExprQ P u f) (env:List (List Term')) (t:Nat) (fn:Int) (b o B:Nat) (S:Nat→Prop) (bv:Nat) (A:Option Addr) (ecap bp op:Nat) (w:World) (hI:SvIn w B bv 1 P bp op) (hS:SIn w B S bv u) (hst:Cells w bv 161 (hdQ u bp op++[.int .i64 t,.int .i64 0])) (hN:SdInP w B S u P fn x b o A env ecap) (ht:t≤3000) (hf:3001≤t+f) (hk:x.k=3∨x.k=4∨x.k=5∨x.k=6) :
  Calls Tryz.prog 202 #[.pointer (some ⟨bv,0,none⟩),ptr b o,.slice A env.length ecap] w (PPost S bv u 161 (hdQ u bp op) (binR u x.k (pvAll (pv u P f) env x.ks t)) w):=by
 have hl2:=formed_opN (N:=2) hN.form (.inl ⟨by omega,rfl⟩)
 obtain ⟨a,ha⟩:=Es.get?_some (show 0<x.ks.len by omega)
 obtain ⟨b2,hb⟩:=Es.get?_some (show 1<x.ks.len by omega)
 have hks:=kids_two hl2 ha hb
 obtain ⟨rr,hrr⟩:∃ rr,rr=binR u x.k (pvAll (pv u P f) env x.ks t):=⟨_,rfl⟩
 rw [←hrr]
 obtain ⟨R,hR⟩:∃ R,R=pvAC u P f 0 x.ks env t:=⟨_,rfl⟩
 have HRR:Hid (rr=binR u x.k R):=by show _=_;rw [hrr,hR];unfold pvAC;rw [if_pos rfl]
 have HM0:Hid (MidP u P f R (.cons a.k a.n a.p a.c a.ks (.cons b2.k b2.n b2.p b2.c b2.ks .nil)) env [] (t:Int) 0):=by rw [hR,hks];exact MidP.start fun _=>⟨rfl,by omega,by omega⟩
 have HNZ:Hid (∀ z s c,ResIs R z s c→c=0→∃ t1:Nat,s=t1∧R=.ok z t1):=fun z s c h hc=>by
  rw [hR] at h
  obtain ⟨_,t1,h1,_,_,h4⟩:=pvAC_next h hc
  exact ⟨t1,h1,by rw [hR];unfold pvAC;rw [if_pos rfl];exact h4⟩
 have HNE:Hid (∀ z s c,ResIs R z s c→c≠0→R=.err c):=fun z s c h hc=>by
  rw [hR] at h
  have:=pvAC_bad h hc rfl
  rw [hR];unfold pvAC;rw [if_pos rfl];exact this
 clear hrr hR hks
 have HIH:=hid IH;clear IH
 have HHA:=hid ha
 have HHB:=hid hb
 have HK:=hid hk
 clear ha hb
 have al:=hI.lt
 have hB:=hI.blow
 have u0:=hS.u0
 have u1:=hS.u1
 obtain ⟨W0,hW0⟩:∃ W0,W0=w.alloc (.cells #[.int .i64 0,.slice none 0 0] 86):=⟨_,rfl⟩
 have hg0:Below w.heap.size w W0:=by rw [hW0];go_grown
 have hs0:W0.heap.size=w.heap.size+1:=by rw [hW0];simp
 have hq:Cells W0 w.heap.size 86 [.int .i64 0,.slice none 0 0]:=by rw [hW0];exact Cells.new w _ _
 have hS0:=hst.next hg0
 have hSI0:SIn W0 B (privS S w.heap.size) bv u:=hS.fresh (by omega) (Nat.le_refl _) (by omega) (by omega)
 have hI0:=hI.only (Only.of_below hg0)
 have hoS:Only S w W0:=Only.of_below hg0
 obtain ⟨K,cap,bk,ok,hbB,k0,k1,k2,k3,k4,hcap,hlc,hK,hkid⟩:=hN.parts
 have hbw:b<w.heap.size:=by omega
 have hbn:b≠bv:=by omega
 have j0:W0.cell? ⟨b,o,none⟩=some (.int .i64 x.k):=keepC k0 hg0
 have j4:W0.cell? ⟨b,o+4,none⟩=some (.slice K x.ks.len cap):=keepC k4 hg0
 have hbW:b<W0.heap.size:=by omega
 have HW0:=hid hW0
 have HKID:=hid hkid
 have HN:=hid hN
 have HI0:=hid hI0
 have HSI0:=hid hSI0
 have HS0:=hid hS0
 have HOS:=hid hoS
 have HQ:=hid hq
 have HG0:=hid hg0
 have HZ0:=hid hs0
 have hK:=hK (by omega)
 subst hK
 have l0:(0:Int)<(x.ks.len:Int):=by omega
 have l1:(1:Int)<(x.ks.len:Int):=by omega
 have l0n:0<x.ks.len:=by omega
 have l1n:1<x.ks.len:=by omega
 have hea:=(hkid 0 a HHA.out).below (hg0.mono (by omega))
 rw [Nat.zero_mul,Nat.add_zero] at hea
 have HSa:=hid (hN.kid hoS (Nat.le_refl _) HHA.out (.inl (by omega)) hea)
 have HK4:=hid (And.intro k0 k4)
 clear hea hk hl2
 clear hI hst hW0 hg0 hS0 hkid k0 k1 k2 k3 k4 hI0 hSI0 hoS hq hs0 hN
 go_enter Tryz.func202,Tryz.ntmps202
 go_upto_region 1 with fail
 rw [←HW0.out]
 go_wp2_with fail
 refine (HIH.out a env (t:Int) t 0 fn bk ok B (privS S w.heap.size) bv A ecap bp op W0 HI0.out HSI0.out HS0.out (fun _=>⟨rfl,by omega,by omega⟩) HSa.out).mono ?_;rintro e w1 ⟨v,za,s1,c1,rfl,⟨Aa,ca,rfl,hpa,hka⟩,hS1,hO1,hres⟩
 have HM1:Hid (MidP u P f R (.cons b2.k b2.n b2.p b2.c b2.ks .nil) env ([]++[za]) s1 c1):=HM0.out.step (by rw [Int.toNat_natCast];exact hres)
 obtain ⟨hb1,x0,x1,hs1⟩:=boxNew (w1:=w1) (u:=u) (Az:=Aa) (n:=za.length) (cz:=ca)
 have hOa:Only (fun q=>q=bv) w (w1.alloc (.cells #[.int .i64 u,.slice Aa za.length ca] 86)):=((Only.of_below HG0.out).trans hO1).trans (Only.of_below hb1)
 have hOW:=hO1.trans (Only.of_below (S:=fun q=>q=bv) hb1)
 have hsz1:w.heap.size+1≤w1.heap.size:=by have:=hO1.size;have:=HZ0.out;omega
 have i4:(w1.alloc (.cells #[.int .i64 u,.slice Aa za.length ca] 86)).cell? ⟨b,o+4,none⟩=some (.slice (some ⟨bk,ok,none⟩) x.ks.len cap):=(hOa.cell (a:=⟨b,_,none⟩) hbw hbn).trans HK4.out.2
 have bl1:b<(w1.alloc (.cells #[.int .i64 u,.slice Aa za.length ca] 86)).heap.size:=by have:=hOa.size;omega
 have heb:=(HKID.out 1 b2 HHB.out).below (only_below hOa hB al)
 rw [Nat.one_mul] at heb
 have HSb:=hid (HN.out.kid (hOa.sub fun q e=>by rw [e];exact hS.bv) (Nat.le_refl _) HHB.out (.inl (by have:=HK.out;omega)) heb)
 have HI1:=hid (HI0.out.only hOW)
 have HSI1:=hid (HSI0.out.mono hOW.size)
 have HS1:=hid (hS1.next hb1)
 have HPa:=hid (And.intro (hpa.only (Only.of_below hb1)) hka)
 have HOa:=hid hOa
 have HXa:=hid (And.intro x0 x1)
 have HOW:=hid hOW
 clear hpa hka hS1 hO1 hres hb1 hs1 heb hOa hOW HSa x0 x1
 go_wp2_with fail
 refine (HIH.out b2 env s1 s1.toNat c1 fn bk (ok+5) B (privS S w.heap.size) bv A ecap bp op _ HI1.out HSI1.out HS1.out HM1.out.now HSb.out).mono ?_;rintro e w2 ⟨v,zb,s2,c2,rfl,⟨Ab,cb,rfl,hpb,hkb⟩,hS2,hO2,hres⟩
 have HM2:=hid (HM1.out.step hres).end_
 obtain ⟨hb2,x2,x3,hs2⟩:=boxNew (w1:=w2) (u:=u) (Az:=Ab) (n:=zb.length) (cz:=cb)
 have hsz2:w1.heap.size+1≤w2.heap.size:=by have:=hO2.size;simp at this;omega
 have hOb:Only (fun q=>q=bv) (w1.alloc (.cells #[.int .i64 u,.slice Aa za.length ca] 86)) (w2.alloc (.cells #[.int .i64 u,.slice Ab zb.length cb] 86)):=hO2.trans (Only.of_below hb2)
 have hbv1:w1.heap.size≠bv:=by omega
 have hW1l:w1.heap.size<(w1.alloc (.cells #[.int .i64 u,.slice Aa za.length ca] 86)).heap.size:=by simp
 have x0:=(hOb.cell (a:=⟨w1.heap.size,0,none⟩) hW1l hbv1).trans HXa.out.1
 have x1:=(hOb.cell (a:=⟨w1.heap.size,1,none⟩) hW1l hbv1).trans HXa.out.2
 have HPa2:=hid (And.intro (HPa.out.1.only (hOb.sub fun q e=>by rw [e];exact HSI0.out.bv)) HPa.out.2)
 have HPb:=hid (And.intro (hpb.only (Only.of_below hb2)) hkb)
 have HOF:=hid (HOa.out.trans hOb)
 have hS2':=hS2.next hb2
 have d3:(w2.alloc (.cells #[.int .i64 u,.slice Ab zb.length cb] 86)).cell? ⟨bv,3,none⟩=some (.int .i64 c2):=by rw [hS2'.cell];rfl
 have dl:bv<(w2.alloc (.cells #[.int .i64 u,.slice Ab zb.length cb] 86)).heap.size:=hS2'.lt
 have i0:(w2.alloc (.cells #[.int .i64 u,.slice Ab zb.length cb] 86)).cell? ⟨b,o,none⟩=some (.int .i64 x.k):=(HOF.out.cell (a:=⟨b,_,none⟩) hbw hbn).trans HK4.out.1
 have bl2:b<(w2.alloc (.cells #[.int .i64 u,.slice Ab zb.length cb] 86)).heap.size:=by have:=HOF.out.size;omega
 have HS2:=hid hS2'
 have HSI2:=hid (HSI1.out.mono hOb.size)
 have HR2:=hid (only_cells (only_cells HQ.out HOW.out (by omega)) hOb (by omega))
 have HX2:=hid (And.intro x0 (And.intro x1 (And.intro x2 x3)))
 clear hpb hkb hS2 hS2' hO2 hres hs2 hOb HSb HPa HM1 HM0 i4 bl1
 go_upto_region 3 with fail
 change Code.wp _ _ _ _ (w2.alloc (.cells #[.int .i64 u,.slice Ab zb.length cb] 86))
 generalize hW2:w2.alloc (.cells #[.int .i64 u,.slice Ab zb.length cb] 86)=W2 at *
 generalize w1.heap.size=g7 at *
 generalize w2.heap.size=g8 at *
 clear hW2
 by_cases hd:c2=0
 ·have hdb:(c2 != 0)=false:=by simpa using hd
  obtain ⟨t2,hs2,hRok⟩:=HNZ.out _ _ _ HM2.out hd
  subst hd hs2
  have HRV:Hid (rr=pvOp u x.k za zb t2):=by show _=_;rw [HRR.out,hRok];rfl
  clear hRok HRR HM2 HNZ HNE
  rcases HK.out with hk | hk | hk | hk
  ·rw [hk] at i0
   have HA:=hid (l05Add_any 1 g7 0 g8 0 u Aa Ab ca cb za zb W2 x0 x1 x3 HPa2.out.1.now HPb.out.1.now HPa2.out.2 HPb.out.2)
   have HRL:Hid (rr=limT u (nfT (za++sclT 1 zb)) t2):=by show _=_;rw [HRV.out];unfold pvOp;rw [if_pos hk,sclT_one (polyOk_canon HPb.out.2)]
   have hsb:=polyOk_scl (k:=1) HPb.out.2 (by omega) (by omega)
   have HTG:=hid (told_good (addOkQ HPa2.out.2 hsb) HRL.out)
   have HBD:=hid (addP_bd HPa2.out.2 hsb)
   clear hsb hk
   go_wp2_with fail
   refine HA.out.mono ?_;rintro e w3 ⟨A3,c3,rfl,hTR,hb3⟩
   have HTL:=hid (toldQ_any u t2 0 (privS S w.heap.size) bv bp op c3 A3 _ true rr w3 (HS2.out.next hb3) (PAt.of (hTR.rt hb3.size) (by have:=HBD.out;omega) HSI2.out.lt) u0 u1 HBD.out.1 (fun _ h=>HTG.out.1 h) (fun h=>HTG.out.2 fun hl=>h ⟨rfl,hl⟩))
   have HR3:=hid (HR2.out.next hb3)
   have HO3:=hid (HOF.out.trans (Only.of_below hb3))
   clear hTR hb3 HA x0 x1 x2 x3
   go_wp2_with fail
   refine HTL.out.mono ?_;rintro e w4 ⟨v,ts4,s4,c4,rfl,⟨A4,cp4,rfl,hp4,hk4⟩,hS4,hO4,hres4⟩
   have hE:BoxEnd S bv u 161 (hdQ u bp op) rr w.heap.size w w4 A4 ts4.length cp4:=boxEnd hp4 hk4 hS4 (HO3.out.trans hO4) hres4 (Nat.le_refl _) al (only_cells HR3.out hO4 (by omega))
   clear hp4 hk4 hS4 hO4 hres4 HTL
   obtain ⟨⟨c0,c1,q0,q1⟩,⟨y0,y1⟩,HE2⟩:=hE
   have HE3:=hid HE2
   clear HE2
   go_wp2
   refine bodyPost_ret (v:=poV u A4 ts4.length cp4) (by simp [results,Tryz.results202,go_sem,y0,y1]) rfl ?_
   exact HE3.out
  ·rw [hk] at i0
   have HA:=hid (l05Add_any 1000002 g7 0 g8 0 u Aa Ab ca cb za zb W2 x0 x1 x3 HPa2.out.1.now HPb.out.1.now HPa2.out.2 HPb.out.2)
   have HRL:Hid (rr=limT u (nfT (za++sclT 1000002 zb)) t2):=by show _=_;rw [HRV.out];unfold pvOp;rw [if_neg (by omega),if_pos hk]
   have hsb:=polyOk_scl (k:=1000002) HPb.out.2 (by omega) (by omega)
   have HTG:=hid (told_good (addOkQ HPa2.out.2 hsb) HRL.out)
   have HBD:=hid (addP_bd HPa2.out.2 hsb)
   clear hsb hk
   go_wp2_with fail
   refine HA.out.mono ?_;rintro e w3 ⟨A3,c3,rfl,hTR,hb3⟩
   have HTL:=hid (toldQ_any u t2 0 (privS S w.heap.size) bv bp op c3 A3 _ true rr w3 (HS2.out.next hb3) (PAt.of (hTR.rt hb3.size) (by have:=HBD.out;omega) HSI2.out.lt) u0 u1 HBD.out.1 (fun _ h=>HTG.out.1 h) (fun h=>HTG.out.2 fun hl=>h ⟨rfl,hl⟩))
   have HR3:=hid (HR2.out.next hb3)
   have HO3:=hid (HOF.out.trans (Only.of_below hb3))
   clear hTR hb3 HA x0 x1 x2 x3
   go_wp2_with fail
   refine HTL.out.mono ?_;rintro e w4 ⟨v,ts4,s4,c4,rfl,⟨A4,cp4,rfl,hp4,hk4⟩,hS4,hO4,hres4⟩
   have hE:BoxEnd S bv u 161 (hdQ u bp op) rr w.heap.size w w4 A4 ts4.length cp4:=boxEnd hp4 hk4 hS4 (HO3.out.trans hO4) hres4 (Nat.le_refl _) al (only_cells HR3.out hO4 (by omega))
   clear hp4 hk4 hS4 hO4 hres4 HTL
   obtain ⟨⟨c0,c1,q0,q1⟩,⟨y0,y1⟩,HE2⟩:=hE
   have HE3:=hid HE2
   clear HE2
   go_wp2
   refine bodyPost_ret (v:=poV u A4 ts4.length cp4) (by simp [results,Tryz.results202,go_sem,y0,y1]) rfl ?_
   exact HE3.out
  ·rw [hk] at i0
   have HA:=hid (l05Mul_any g7 0 g8 0 u Aa Ab ca cb za zb W2 x0 x1 x3 HPa2.out.1.now HPb.out.1.now HPa2.out.2 HPb.out.2)
   have HRL:Hid (rr=limT u (nfT (prods za zb)) t2):=by show _=_;rw [HRV.out];unfold pvOp;rw [if_neg (by omega),if_neg (by omega),if_pos hk]
   clear hk
   go_wp2_with fail
   refine HA.out.mono ?_;rintro e w3 ⟨A3,c3,R3,ok3,hm,rfl,hTR,hb3⟩
   have HTG:=hid (told_mul HPa2.out.2 HPb.out.2 hm HRL.out)
   obtain ⟨hb4,y0',y1',hs4⟩:=boxNew (w1:=w3) (u:=u) (Az:=A3) (n:=R3.length) (cz:=c3)
   have hb5:=hb3.trans (hb4.mono hb3.size)
   have HTL:=hid (toldQ_any u t2 0 (privS S w.heap.size) bv bp op c3 A3 R3 ok3 rr (w3.alloc (.cells #[.int .i64 u,.slice A3 R3.length c3] 86)) (HS2.out.next hb5) ((PAt.of (hTR.rt hb3.size) (by have:=HTG.out.2.2;omega) HSI2.out.lt).only (Only.of_below hb4)) u0 u1 HTG.out.2.2.1 HTG.out.1 HTG.out.2.1)
   have HR3:=hid (HR2.out.next hb5)
   have HO3:=hid (HOF.out.trans (Only.of_below hb5))
   clear hTR hb3 HA x0 x1 x2 x3 hm hb4 hb5 hs4
   go_wp2_with fail
   refine HTL.out.mono ?_;rintro e w4 ⟨v,ts4,s4,c4,rfl,⟨A4,cp4,rfl,hp4,hk4⟩,hS4,hO4,hres4⟩
   have hE:BoxEnd S bv u 161 (hdQ u bp op) rr w.heap.size w w4 A4 ts4.length cp4:=boxEnd hp4 hk4 hS4 (HO3.out.trans hO4) hres4 (Nat.le_refl _) al (only_cells HR3.out hO4 (by omega))
   clear hp4 hk4 hS4 hO4 hres4 HTL y0' y1'
   obtain ⟨⟨c0,c1,q0,q1⟩,⟨y0,y1⟩,HE2⟩:=hE
   have HE3:=hid HE2
   clear HE2
   go_wp2
   refine bodyPost_ret (v:=poV u A4 ts4.length cp4) (by simp [results,Tryz.results202,go_sem,y0,y1]) rfl ?_
   exact HE3.out
  ·rw [hk] at i0
   have HNU:=hid (numberQ_any u 0 t2 bv bp op g8 0 cb Ab zb W2 HS2.out x3 HPb.out.1.now HPb.out.2)
   have HRL:Hid (rr=divR za zb t2):=by show _=_;rw [HRV.out];unfold pvOp divR;rw [if_neg (by omega),if_neg (by omega),if_neg (by omega),if_neg (by omega)];cases numT zb<;>rfl
   clear hk
   go_wp2_with fail
   refine HNU.out.mono ?_;rintro e w3 ⟨n,s3,d3',rfl,hS3,hO3,hnum⟩
   have HNUM:=hid hnum
   have HO3:=hid hO3
   have HS3:=hid hS3
   have dd3:w3.cell? ⟨bv,3,none⟩=some (.int .i64 d3'):=by rw [hS3.cell];rfl
   have dl3:=hS3.lt
   have HR3:=hid (only_cells HR2.out hO3 (by omega))
   have HOF3:=hid (HOF.out.trans hO3)
   have HSI3:=hid (HSI2.out.mono hO3.size)
   clear hnum hS3 hO3 HNU x0 x1 x2 x3
   by_cases hz:n=0
   ·have HBD:=hid (HRL.out.trans (divR_bad HNUM.out hz))
    by_cases hd4:d3'=0
    ·have z0:(d3'==0)=true:=by simpa using hd4
     have z1:(n==0)=true:=by simpa using hz
     have HF:=hid (failQ_any u d3' s3 6 (privS S w.heap.size) bv bp op w3 HS3.out u0 u1)
     clear hz hd4
     go_wp2_with fail
     refine HF.out.mono ?_;rintro e w4 ⟨v,ts4,s4,c4,rfl,⟨A4,cp4,rfl,hp4,hk4⟩,hS4,hO4,hres4⟩
     rw [show failC d3' 6=(if d3'=0 then 6 else d3') from rfl,←HBD.out] at hres4
     have hE:BoxEnd S bv u 161 (hdQ u bp op) rr w.heap.size w w4 A4 ts4.length cp4:=boxEnd hp4 hk4 hS4 (HOF3.out.trans hO4) hres4 (Nat.le_refl _) al (only_cells HR3.out hO4 (by omega))
     clear hp4 hk4 hS4 hO4 hres4 HF
     obtain ⟨⟨c0,c1,q0,q1⟩,⟨y0,y1⟩,HE2⟩:=hE
     have HE3:=hid HE2
     clear HE2
     go_wp2
     refine bodyPost_ret (v:=poV u A4 ts4.length cp4) (by simp [results,Tryz.results202,go_sem,y0,y1]) rfl ?_
     exact HE3.out
    ·have z0:(d3'==0)=false:=by simpa using hd4
     have z1:(d3' != 0)=true:=by simpa using hd4
     have HF:=hid (failQ_any u d3' s3 d3' (privS S w.heap.size) bv bp op w3 HS3.out u0 u1)
     have HFC:Hid (failC d3' d3'=(if d3'=0 then 6 else d3')):=by show _=_;unfold failC;rw [if_neg hd4,if_neg hd4]
     clear hz hd4
     go_wp2_with fail
     refine HF.out.mono ?_;rintro e w4 ⟨v,ts4,s4,c4,rfl,⟨A4,cp4,rfl,hp4,hk4⟩,hS4,hO4,hres4⟩
     rw [HFC.out,←HBD.out] at hres4
     have hE:BoxEnd S bv u 161 (hdQ u bp op) rr w.heap.size w w4 A4 ts4.length cp4:=boxEnd hp4 hk4 hS4 (HOF3.out.trans hO4) hres4 (Nat.le_refl _) al (only_cells HR3.out hO4 (by omega))
     clear hp4 hk4 hS4 hO4 hres4 HF
     obtain ⟨⟨c0,c1,q0,q1⟩,⟨y0,y1⟩,HE2⟩:=hE
     have HE3:=hid HE2
     clear HE2
     go_wp2
     refine bodyPost_ret (v:=poV u A4 ts4.length cp4) (by simp [results,Tryz.results202,go_sem,y0,y1]) rfl ?_
     exact HE3.out
   ·have z0:(n==0)=false:=by simpa using hz
    obtain ⟨hr1,hr2,hr3,hr4⟩:=divR_good (a:=za) (s:=t2) HNUM.out hz
    have hbd:=numT_bd HPb.out.2 hr4
    obtain ⟨i1,i2⟩:=iv_bd1 hbd.1 hbd.2 hz
    subst hr2 hr3
    have x0:w3.cell? ⟨g7,0,none⟩=some (.int .i64 u):=(HO3.out.cell (a:=⟨g7,_,none⟩) (World.block_lt_of_cell? _ _ HX2.out.1) hbv1).trans HX2.out.1
    have hg7l:g7<W2.heap.size:=World.block_lt_of_cell? _ _ HX2.out.1
    have x1:w3.cell? ⟨g7,1,none⟩=some (.slice Aa za.length ca):=(HO3.out.cell (a:=⟨g7,1,none⟩) hg7l hbv1).trans HX2.out.2.1
    have HSC:=hid (l05Scaled_any (iv n) i1 i2 g7 0 u Aa ca za w3 x0 x1 (HPa2.out.1.only (HO3.out.sub fun q e=>by rw [e];exact HSI0.out.bv)).now HPa2.out.2)
    have HRV3:=hid (HRL.out.trans hr1)
    have HOK:=hid (polyOk_scl (k:=iv n) HPa2.out.2 i1 i2)
    have HIV:=hid (fun wx=>invS_any n wx)
    generalize iv n=m at *
    clear hr1 hr4 hz hbd
    go_wp2_with fail
    refine (HIV.out _).mono ?_;rintro e w' ⟨rfl,rfl⟩
    go_wp2_with fail
    refine HSC.out.mono ?_;rintro e w4 ⟨A4,cp4,rfl,hTR,hb4⟩
    have hE:BoxEnd S bv u 161 (hdQ u bp op) rr w.heap.size w w4 A4 (sclT m za).length cp4:=boxEnd (PAt.of (hTR.rt hb4.size) (polyOk_totT HOK.out) HSI3.out.lt) HOK.out (HS3.out.next hb4) (HOF3.out.trans (Only.of_below hb4)) (by rw [HRV3.out];exact ⟨rfl,rfl,rfl⟩) (Nat.le_refl _) al (HR3.out.next hb4)
    clear hTR hb4 HSC x0 x1
    obtain ⟨⟨c0,c1,q0,q1⟩,⟨y0,y1⟩,HE2⟩:=hE
    have HE3:=hid HE2
    clear HE2
    go_wp2
    refine bodyPost_ret (v:=poV u A4 (sclT m za).length cp4) (by simp [results,Tryz.results202,go_sem,y0,y1]) rfl ?_
    exact HE3.out
 ·have hdb:(c2 != 0)=true:=by simpa using hd
  have HB2:=hid (HNE.out _ _ _ HM2.out hd)
  have HF:=hid (failQ_any u c2 s2 c2 (privS S w.heap.size) bv bp op W2 HS2.out u0 u1)
  have HFC:Hid (failC c2 c2=c2):=if_neg hd
  have HRB:Hid (rr=.err c2):=by show _=_;rw [HRR.out,HB2.out];rfl
  clear hd
  go_wp2_with fail
  refine HF.out.mono ?_;rintro e w4 ⟨v,ts4,s4,c4,rfl,⟨A4,cp4,rfl,hp4,hk4⟩,hS4,hO4,hres4⟩
  rw [HFC.out,←HRB.out] at hres4
  have hE:BoxEnd S bv u 161 (hdQ u bp op) rr w.heap.size w w4 A4 ts4.length cp4:=boxEnd hp4 hk4 hS4 (HOF.out.trans hO4) hres4 (Nat.le_refl _) al (only_cells HR2.out hO4 (by omega))
  clear hp4 hk4 hS4 hO4 hres4 HF
  obtain ⟨⟨c0,c1,q0,q1⟩,⟨y0,y1⟩,HE2⟩:=hE
  have HE3:=hid HE2
  clear HE2
  go_wp2
  refine bodyPost_ret (v:=poV u A4 ts4.length cp4) (by simp [results,Tryz.results202,go_sem,y0,y1]) rfl ?_
  exact HE3.out
theorem exprQ_bin (P:List Fn) (x:Nd) (u:Int) (f:Nat) (IH:ExprQ P u f) (env:List (List Term')) (t:Nat) (fn:Int) (b o B:Nat) (S:Nat→Prop) (bv:Nat) (A:Option Addr) (ecap bp op:Nat) (w:World) (hI:SvIn w B bv 1 P bp op) (hS:SIn w B S bv u) (hst:Cells w bv 161 (hdQ u bp op++[.int .i64 t,.int .i64 0])) (hN:SdInP w B S u P fn x b o A env ecap) (hs:t<3000) (hf:3001≤t+(f+1)) (hk:x.k=3∨x.k=4∨x.k=5∨x.k=6) :
  Calls Tryz.prog 123 #[.pointer (some ⟨bv,0,none⟩),ptr b o,.slice A env.length ecap] w (PPost S bv u 161 (hdQ u bp op) (pv u P (f+1) x env t) w):=by
 have HEV:Hid (pv u P (f+1) x env t=binR u x.k (pvAll (pv u P f) env x.ks (t+1))):=by
  show _=_
  rw [pv,if_neg (by omega),if_neg (by omega),if_neg (by omega),if_neg (by omega),if_neg (by omega)]
  cases pvAll (pv u P f) env x.ks (t+1) with
  | err e=>rfl
  | ok zs s1=>simp only;rw [if_neg (by omega),if_neg (by omega)];rfl
 obtain ⟨rr,hrr⟩:∃ rr,rr=pv u P (f+1) x env t:=⟨_,rfl⟩
 rw [←hrr]
 have HRR:=hid (hrr.trans HEV.out)
 clear HEV hrr
 have al:=hI.lt
 have hB:=hI.blow
 have u0:=hS.u0
 have u1:=hS.u1
 have hQ:=qvStep hI hS hst
 obtain ⟨W0,hW0⟩:∃ W0,W0=w.alloc (.cells #[.int .i64 0,.slice none 0 0] 86):=⟨_,rfl⟩
 obtain ⟨W1,hW1⟩:∃ W1,W1=W0.setCell ⟨bv,2,none⟩ (.int .i64 ((t:Int)+1)):=⟨_,rfl⟩
 rw [←hW0,←hW1] at hQ
 have hg0:Below w.heap.size w W0:=by rw [hW0];go_grown
 have hS0:=hst.next hg0
 have hW0l:bv<W0.heap.size:=hS0.lt
 have a2:W0.cell? ⟨bv,2,none⟩=some (.int .i64 t):=by rw [hS0.cell];rfl
 have a3:W0.cell? ⟨bv,3,none⟩=some (.int .i64 0):=by rw [hS0.cell];rfl
 have z2:W0.frozen? ⟨bv,2,none⟩=false:=hS0.frozen _
 have e1:((t:Int)==3000)=false:=by simp;omega
 obtain ⟨K,cap,bk,ok,hbB,k0,k1,k2,k3,k4,hcap,hlc,hK,hkid⟩:=hN.parts
 have hbw:b<w.heap.size:=by omega
 have hbn:b≠bv:=by omega
 have j0:W1.cell? ⟨b,o,none⟩=some (.int .i64 x.k):=(hQ.only.cell (a:=⟨b,_,none⟩) hbw hbn).trans k0
 have j1:W1.cell? ⟨b,o+1,none⟩=some (.int .i64 x.n):=(hQ.only.cell (a:=⟨b,_,none⟩) hbw hbn).trans k1
 have j4:W1.cell? ⟨b,o+4,none⟩=some (.slice K x.ks.len cap):=(hQ.only.cell (a:=⟨b,_,none⟩) hbw hbn).trans k4
 have hbW:b<W1.heap.size:=by have:=hQ.only.size;omega
 have HW0:=hid hW0
 have HW1:=hid hW1
 have HQ:=hid hQ
 have HKID:=hid hkid
 have HBR:=hid (binaryQ P x u f IH env (t+1) fn b o B (privS S w.heap.size) bv A ecap bp op W1 hQ.ev hQ.si hQ.st (hN.self (hQ.only.sub fun q e=>by rw [e];exact hS.bv) (only_below hQ.only hB al) (Nat.le_refl _)) (by omega) (by omega) hk)
 rw [←HRR.out] at HBR
 obtain ⟨kx,hkx⟩:∃ kx,kx=x.k:=⟨_,rfl⟩
 rw [←hkx] at j0 hk
 have m1:(kx==1)=false:=by simp;omega
 have m2:(kx==2)=false:=by simp;omega
 have m7:(kx==7)=false:=by simp;omega
 have m8:(kx==8)=false:=by simp;omega
 have m9:(kx==9)=false:=by simp;omega
 have m10:(kx==10)=false:=by simp;omega
 have m11:(kx==11)=false:=by simp;omega
 clear hN IH hk hkx
 clear hI hst hW0 hW1 hQ hg0 hS0 hkid k0 k1 k2 k3 k4
 go_enter Tryz.func123,Tryz.ntmps123
 go_upto_region 1 with fail
 rw [←HW0.out]
 go_upto_region 6 with fail
 rw [←HW1.out]
 go_wp2_with fail
 refine HBR.out.mono ?_;rintro e w3 ⟨v,ts3,s3,c3,rfl,⟨A3,cp3,rfl,hp3,hk3⟩,hS3,hO3,hres3⟩
 have hE:BoxEnd S bv u 161 (hdQ u bp op) rr w.heap.size w w3 A3 ts3.length cp3:=boxEnd hp3 hk3 hS3 (HQ.out.only.trans hO3) hres3 (Nat.le_refl _) al (only_cells HQ.out.rb hO3 (by omega))
 clear hp3 hk3 hS3 hO3 hres3 HBR
 obtain ⟨⟨c0,c1,q0,q1⟩,⟨y0,y1⟩,HE2⟩:=hE
 have HE3:=hid HE2
 clear HE2
 go_wp2
 refine bodyPost_ret (v:=poV u A3 ts3.length cp3) (by simp [results,Tryz.results123,go_sem,y0,y1]) rfl ?_
 exact HE3.out
end
section
open Go.RowKit Plain
theorem exprQ_let (P:List Fn) (x:Nd) (u:Int) (f:Nat) (IH:ExprQ P u f) (env:List (List Term')) (t:Nat) (fn:Int) (b o B:Nat) (S:Nat→Prop) (bv:Nat) (A:Option Addr) (ecap bp op:Nat) (w:World) (hI:SvIn w B bv 1 P bp op) (hS:SIn w B S bv u) (hst:Cells w bv 161 (hdQ u bp op++[.int .i64 t,.int .i64 0])) (hN:SdInP w B S u P fn x b o A env ecap) (hs:t<3000) (hf:3001≤t+(f+1)) (hk:x.k=9) :
  Calls Tryz.prog 123 #[.pointer (some ⟨bv,0,none⟩),ptr b o,.slice A env.length ecap] w (PPost S bv u 161 (hdQ u bp op) (pv u P (f+1) x env t) w):=by
 obtain ⟨i0,hi,hz0,hz1,hz2⟩:=info_parts Tryz.infoPo
 have hl2:=formed_op9 hN.form hk
 obtain ⟨a,ha⟩:=Es.get?_some (show 0<x.ks.len by omega)
 obtain ⟨b2,hb⟩:=Es.get?_some (show 1<x.ks.len by omega)
 have HEV:Hid (pv u P (f+1) x env t=match pv u P f a env (t+1) with | .err e=>.err e | .ok z s1=>pv u P f b2 (env++[z]) s1):=by
  show _=_
  rw [pv,if_neg (by omega),if_neg (by omega),if_neg (by omega),if_neg (by omega),if_pos hk,ha,hb]
  all_goals rfl
 obtain ⟨rr,hrr⟩:∃ rr,rr=pv u P (f+1) x env t:=⟨_,rfl⟩
 rw [←hrr]
 have HRR:=hid (hrr.trans HEV.out)
 clear HEV hrr
 have HIH:=hid IH;clear IH
 have HKK:=hid hk
 have HHB:=hid hb
 have al:=hI.lt
 have hB:=hI.blow
 have u0:=hS.u0
 have u1:=hS.u1
 have hQ:=qvStep hI hS hst
 obtain ⟨W0,hW0⟩:∃ W0,W0=w.alloc (.cells #[.int .i64 0,.slice none 0 0] 86):=⟨_,rfl⟩
 obtain ⟨W1,hW1⟩:∃ W1,W1=W0.setCell ⟨bv,2,none⟩ (.int .i64 ((t:Int)+1)):=⟨_,rfl⟩
 rw [←hW0,←hW1] at hQ
 have hg0:Below w.heap.size w W0:=by rw [hW0];go_grown
 have hS0:=hst.next hg0
 have hW0l:bv<W0.heap.size:=hS0.lt
 have a2:W0.cell? ⟨bv,2,none⟩=some (.int .i64 t):=by rw [hS0.cell];rfl
 have a3:W0.cell? ⟨bv,3,none⟩=some (.int .i64 0):=by rw [hS0.cell];rfl
 have z2:W0.frozen? ⟨bv,2,none⟩=false:=hS0.frozen _
 have e1:((t:Int)==3000)=false:=by simp;omega
 obtain ⟨K,cap,bk,ok,hbB,k0,k1,k2,k3,k4,hcap,hlc,hK,hkid⟩:=hN.parts
 have hbw:b<w.heap.size:=by omega
 have hbn:b≠bv:=by omega
 have j0:W1.cell? ⟨b,o,none⟩=some (.int .i64 x.k):=(hQ.only.cell (a:=⟨b,_,none⟩) hbw hbn).trans k0
 have j1:W1.cell? ⟨b,o+1,none⟩=some (.int .i64 x.n):=(hQ.only.cell (a:=⟨b,_,none⟩) hbw hbn).trans k1
 have j4:W1.cell? ⟨b,o+4,none⟩=some (.slice K x.ks.len cap):=(hQ.only.cell (a:=⟨b,_,none⟩) hbw hbn).trans k4
 have hbW:b<W1.heap.size:=by have:=hQ.only.size;omega
 have HW0:=hid hW0
 have HW1:=hid hW1
 have HQ:=hid hQ
 have HKID:=hid hkid
 rw [hk] at j0
 have hK:=hK (by omega)
 subst hK
 have l0:(0:Int)<(x.ks.len:Int):=by omega
 have l1:(1:Int)<(x.ks.len:Int):=by omega
 have l0n:0<x.ks.len:=by omega
 have l1n:1<x.ks.len:=by omega
 have hea:=(hkid 0 a ha).below (only_below hQ.only hB al)
 rw [Nat.zero_mul,Nat.add_zero] at hea
 have HSa:=hid (hN.kid (hQ.only.sub fun q e=>by rw [e];exact hS.bv) (Nat.le_refl _) ha (.inr (by omega)) hea)
 have HN:=hid hN
 have HK4:=hid k4
 have hel:=hN.el
 have hbig:=hN.big
 have hdp:=Es.get?_depth hb
 have hem:ecap≤9223372036854775807:=by have:=hN.em;unfold maxLen at this;omega
 clear hN hea ha hb hk hl2
 clear hI hst hW0 hW1 hQ hg0 hS0 hkid k0 k1 k2 k3 k4
 go_enter Tryz.func123,Tryz.ntmps123
 go_upto_region 1 with fail
 rw [←HW0.out]
 go_upto_region 6 with fail
 rw [←HW1.out]
 go_wp2_with fail
 refine (HIH.out a env ((t+1:Nat):Int) (t+1) 0 fn bk ok B (privS S w.heap.size) bv A ecap bp op _ HQ.out.ev HQ.out.si HQ.out.st (fun _=>⟨rfl,by omega,by omega⟩) HSa.out).mono ?_;rintro e w1 ⟨v,zs,s',c',rfl,⟨Az,cz,rfl,hpz,hkz⟩,hS1,hO1,hres⟩
 obtain ⟨hb1,x0,x1,hs1⟩:=boxNew (w1:=w1) (u:=u) (Az:=Az) (n:=zs.length) (cz:=cz)
 have hO2:=(HQ.out.only.trans hO1).trans (Only.of_below (S:=fun q=>q=bv) hb1)
 have HS2:=hid (hS1.next hb1)
 have HPZ:=hid (And.intro (hpz.only (Only.of_below hb1)) hkz)
 have HX:=hid (And.intro x0 x1)
 have HR2:=hid (only_cells HQ.out.rb (hO1.trans (Only.of_below hb1)) (by omega))
 have HSI2:=hid (HQ.out.si.mono (hO1.trans (Only.of_below (S:=fun q=>q=bv) hb1)).size)
 have HI2:=hid (HQ.out.ev.only (hO1.trans (Only.of_below hb1)))
 have HO2:=hid hO2
 have HRES:=hid hres
 have hsz1:w.heap.size+1≤w1.heap.size:=by have:=hO1.size;have:=HQ.out.size;omega
 clear hpz hkz hS1 hO1 hO2 hres hb1 hs1 HSa x0 x1
 go_upto_region 18 with fail
 change Code.wp _ _ _ _ (w1.alloc (.cells #[.int .i64 u,.slice Az zs.length cz] 86))
 have hW2l:w1.heap.size+1=(w1.alloc (.cells #[.int .i64 u,.slice Az zs.length cz] 86)).heap.size:=by simp
 generalize w1.alloc (.cells #[.int .i64 u,.slice Az zs.length cz] 86)=W2 at *
 have hg8:w1.heap.size<W2.heap.size:=by omega
 clear hW2l
 generalize w1.heap.size=g8 at *
 go_wp2
 go_loopw [9,10] (fun o_ i wr=>∃ (j g:Nat),i=.int .i64 (j:Int)∧j≤env.length∧Hid (o_.ownBlock=some g∧W2.heap.size≤g∧g<wr.heap.size)∧Hid (PRow wr W2.heap.size (privS S w.heap.size) u o_ (env.take j))∧Hid (Below W2.heap.size W2 wr)) (fun _ i _=>env.length - (intOf i).toNat)
 case atStart=>exact ⟨0,W2.heap.size,by go_num,Nat.zero_le _,⟨rfl,Nat.le_refl _,by simp⟩,PRow.start W2 _ u,by show Below _ _ _;go_grown⟩
 case round=>
  obtain ⟨j,g,rfl,hj,hG,HR,HBW⟩:=hrel
  have hOr:Only (fun q=>q=bv) w wr:=HO2.out.trans (Only.of_below HBW.out)
  have hEr:PEnv wr (privS (privS S w.heap.size) g) u A env:=((HN.out.envA.fresh (g:=w.heap.size) (Only.refl S w) (Nat.le_refl _)).only (Only.refl _ w)).fresh (hOr.sub fun q e=>by rw [e];exact .inl hS.bv) (by have:=hG.out.2.1;omega)
  obtain ⟨ps,hG1,hps,hoks,hkp⟩:=HR.out
  have hpl:ps.length=j:=by have:=congrArg List.length hps;rw [List.length_map,List.length_take] at this;omega
  have HG1:=hid hG1
  have HKP:=hid hkp
  have HOKS:=hid hoks
  have HPS:=hid hps
  have hwr:W2.heap.size≤wr.heap.size:=HBW.out.size
  by_cases hlt:j<env.length
  ·have hjl:(j:Int)<(env.length:Int):=by omega
   obtain ⟨b1,o1,Aj,cj,rfl,hbl1,d0,d1,hPA,hok⟩:=hEr.get (List.getElem?_eq_getElem hlt)
   obtain ⟨ts,hts⟩:∃ ts,ts=env[j]:=⟨_,rfl⟩
   rw [←hts] at d1 hPA hok
   have HPA:=hid (And.intro hPA hok)
   have HTS:=hid hts
   clear hEr hG1 hps hoks hkp HR hPA hok hts
   obtain ⟨W1',hW1'⟩:∃ W,W=wr.alloc (.cells (poD u (ts,Aj,cj)).toArray 86):=⟨_,rfl⟩
   have hb2:Below wr.heap.size wr W1':=by rw [hW1'];go_grown
   have hC2:Cells W1' wr.heap.size 86 (poD u (ts,Aj,cj)):=by rw [hW1'];exact Cells.new _ _ _
   have HOW:=hid (HG1.out.below hb2).own
   have HB2:=hid hb2
   have HC2:=hid hC2
   have HW1':=hid hW1'
   clear hb2 hC2 hW1'
   go_wp2_with (at_builtin;change wpList _ _ _ _ _ (wr.alloc (.cells (poD u (ts,Aj,cj)).toArray 86));rw [←HW1'.out];refine wpList_append_own_at _ rfl _ _ 162 rfl W2.heap.size 86 i0 (.agg #[.int .i64 0,.slice none 0 0]) 2 32 Tryz.underlying162 hi hz0 hz1 hz2 rfl (by decide) _ _ _ rfl HOW.out ⟨wr.heap.size,0,none⟩ 1 1 (poD u (ts,Aj,cj)) rfl rfl ?c1 ?c2 ?c3 ?c4 ?c5 ?_)
   case c1=>intro q z hz;rw [addr_add,Nat.zero_add];exact (HC2.out.cell q).trans hz
   case c2=>intro z hz;simp only [poD,List.mem_cons,List.not_mem_nil,or_false] at hz;rcases hz with rfl | rfl<;>rfl
   case c3=>simp only [List.length_map];unfold maxLen;omega
   case c4=>simp only [List.length_map];omega
   case c5=>have:=HB2.out.size;omega
   intro v2 w2 hown0 hg2 _ hat
   have hown:w2.ownsRow W2.heap.size 86 2 v2 ((ps.map (poEl (privS S w.heap.size) u)).length+1) ((ps.map (poEl (privS S w.heap.size) u)).flatMap (·.1)++poD u (ts,Aj,cj)):=by
    rw [List.length_map,hpl]
    exact hown0
   have hgl:=(HG1.out.lt hG.out.1)
   obtain ⟨hp2,hbl⟩:=PRow.push (p:=(ts,Aj,cj)) HG1.out (by rw [HPS.out];exact HOKS.out) HKP.out hG.out.1 (Below.refl _ _) HPA.out.1 HPA.out.2 HB2.out hown hg2 hat
   rw [HPS.out] at hp2
   have hg3:∃ g3,v2.ownBlock=some g3∧W2.heap.size≤g3∧g3<w2.heap.size:=by
    have hs2:=hg2.size
    have hs1:=HB2.out.size
    rcases hat with e | e
    ·exact ⟨g,e.trans hG.out.1,hgl.1,by omega⟩
    ·exact ⟨W1'.heap.size,e,by omega,(World.ownsRow.lt hown _ e).2⟩
   obtain ⟨g3,hg3⟩:=hg3
   have HG3:=hid hg3
   have HP2:Hid (PRow w2 W2.heap.size (privS S w.heap.size) u v2 (env.take (j+1))):=by show PRow _ _ _ _ _ _;rw [take_snoc' env j _ (List.getElem?_eq_getElem hlt),←HTS.out];exact hp2
   have HBW2:=hid (HBW.out.trans hbl)
   clear hown hown0 hg2 hat hp2 hbl hg3 HG1 HKP HOKS HPS HOW HC2 HB2 HPA hgl HW1' HTS d0 d1
   go_wp2
   go_roundw
   case rel=>exact ⟨j+1,g3,by go_num,by omega,HG3,HP2,HBW2⟩
   case measure=>simp [intOf];omega
  ·obtain rfl:j=env.length:=by omega
   have m0:wr.cell? ⟨g8,0,none⟩=some (.int .i64 u):=keepC HX.out.1 HBW.out
   have m1:wr.cell? ⟨g8,1,none⟩=some (.slice Az zs.length cz):=keepC HX.out.2 HBW.out
   have i4:wr.cell? ⟨b,o+4,none⟩=some (.slice (some ⟨bk,ok,none⟩) x.ks.len cap):=(hOr.cell (a:=⟨b,_,none⟩) hbw hbn).trans HK4.out
   have hbr:b<wr.heap.size:=by have:=hOr.size;omega
   have hPA:PAt wr (privS (privS S w.heap.size) g) Az zs:=(HPZ.out.1.fresh hG.out.2.1).only (Only.of_below HBW.out)
   have HPA:=hid (And.intro hPA HPZ.out.2)
   have HOR:=hid hOr
   clear hEr hG1 hps hoks hkp HR hPA hOr
   have hdr:Below wr.heap.size wr wr.drew:=(Below.refl _ _).drew
   have hb2:Below wr.heap.size wr (wr.alloc (.cells #[.int .i64 u,.slice Az zs.length cz] 86)).drew:=(show Below wr.heap.size wr (wr.alloc (.cells #[.int .i64 u,.slice Az zs.length cz] 86)) by go_grown).drew
   have hC2:Cells (wr.alloc (.cells #[.int .i64 u,.slice Az zs.length cz] 86)).drew wr.heap.size 86 (poD u (zs,Az,cz)):=(Cells.new wr 86 (poD u (zs,Az,cz))).drewN 1
   have HOW:=hid (HG1.out.below hb2).own
   have HB2:=hid hb2
   have HC2:=hid hC2
   have HM:=hid (And.intro i4 (And.intro m0 m1))
   have HMX:Hid (env.length+1≤maxLen∧(env.length+1)*32≤140737488355328):=⟨by unfold maxLen;omega,by omega⟩
   have HCALL:Hid (∀ (A3:Option Addr) (c3:Nat) (w2:World),Below W2.heap.size W2 w2→PEnv w2 (privS S w.heap.size) u A3 (env++[zs])→env.length+1≤c3→c3≤maxLen→Calls Tryz.prog 123 #[.pointer (some ⟨bv,0,none⟩),ptr bk (ok+5),.slice A3 (env.length+1) c3] w2 fun e w3=>∃ A4 n4 cp4,e=.returned (.agg #[.int .i64 u,.slice A4 n4 cp4])∧BoxEnd S bv u 161 (hdQ u bp op) rr w.heap.size w w3 A4 n4 cp4∧Only (fun q=>q=bv) w2 w3):=by
    intro A3 c3 w2 hBl hE hc hm
    have hO:Only (fun q=>q=bv) W2 w2:=Only.of_below hBl
    have hform:=formed_kids HN.out.form HHB.out
    have hkv:kidVars x.k env.length 1=((env++[zs]).length:Int):=by rw [HKK.out,kidVars_yes];simp
    rw [hkv] at hform
    have hOw:=HO2.out.trans hO
    have heb:=(HKID.out 1 b2 HHB.out).below (only_below hOw hB al)
    rw [Nat.one_mul] at heb
    have hst2:Cells w2 bv 161 (hdQ u bp op++[.int .i64 s',.int .i64 c']):=HS2.out.next hBl
    have hz:=HIH.out b2 (env++[zs]) s' s'.toNat c' fn bk (ok+5) B (privS S w.heap.size) bv A3 c3 bp op w2 (HI2.out.only hO) (HSI2.out.mono hO.size) hst2 (fun h=>by
     obtain ⟨_,t1,rfl,h1,h2,_⟩:=pvC_next HRES.out h
     exact ⟨by simp,by simp;omega,by simp;omega⟩) ⟨heb,hE,by simp;omega,hm,by simp;omega,by have:=Es.get?_size HHB.out;have:=HN.out.size;omega,hform,HN.out.f0,HN.out.f1⟩
    rw [List.length_append] at hz
    refine Calls.mono hz fun e w3 h=>?_
    have hq:pvC u P f c' b2 (env++[zs]) s'.toNat=rr:=by
     rw [HRR.out]
     by_cases hc0:c'=0
     ·obtain ⟨_,t1,rfl,h1,h2,h3⟩:=pvC_next HRES.out hc0
      rw [h3]
      unfold pvC
      rw [if_pos hc0]
      simp only [Int.toNat_natCast]
     ·rw [pvC_bad HRES.out hc0 rfl]
      unfold pvC
      rw [if_neg hc0]
    obtain ⟨v,ts3,s3,c3',rfl,⟨A4,cp4,rfl,hp3,hk3⟩,hS3,hO3,hres3⟩:=h
    rw [hq] at hres3
    exact ⟨A4,ts3.length,cp4,rfl,boxEnd hp3 hk3 hS3 (hOw.trans hO3) hres3 (Nat.le_refl _) al (only_cells HR2.out (hO.trans hO3) (by omega)),hO3⟩
   have hbW2:b<W2.heap.size:=by have:=HO2.out.size;omega
   have i42:W2.cell? ⟨b,o+4,none⟩=some (.slice (some ⟨bk,ok,none⟩) x.ks.len cap):=(HO2.out.cell (a:=⟨b,_,none⟩) hbw hbn).trans HK4.out
   have hg8n:g8≠bv:=by omega
   have hkeep:∀ w',Only (fun q=>q=bv) W2 w'→w'.cell? ⟨b,o+4,none⟩=some (.slice (some ⟨bk,ok,none⟩) x.ks.len cap)∧w'.cell? ⟨g8,0,none⟩=some (.int .i64 u)∧w'.cell? ⟨g8,1,none⟩=some (.slice Az zs.length cz):=fun w' ho=>
    ⟨(ho.cell (a:=⟨b,_,none⟩) hbW2 hbn).trans i42,(ho.cell (a:=⟨g8,0,none⟩) hg8 hg8n).trans HX.out.1,(ho.cell (a:=⟨g8,1,none⟩) hg8 hg8n).trans HX.out.2⟩
   have HKEEP:=hid hkeep
   have HOD:Hid (Only (fun q=>q=bv) W2 wr.drew):=(Only.of_below HBW.out).drewN 1
   have HOA:Hid (Only (fun q=>q=bv) W2 (wr.alloc (.cells #[.int .i64 u,.slice Az zs.length cz] 86)).drew):=(Only.of_below HBW.out).trans (Only.of_below HB2.out)
   clear hb2 hC2 hkeep i42
   go_wp2_with fail
   refine RegE.start (S:=fun wx=>wx.cell? ⟨b,o+4,none⟩=some (.slice (some ⟨bk,ok,none⟩) x.ks.len cap)∧wx.cell? ⟨g8,0,none⟩=some (.int .i64 u)∧wx.cell? ⟨g8,1,none⟩=some (.slice Az zs.length cz)) 11 (by kernel_rfl) (by kernel_rfl) ?Sr0 (fun hHeld hB=>?_)
   case Sr0=>((try dsimp only);exact HKEEP.out _ HOD.out)
   refine RegE.takeL (S:=fun wx=>wx.cell? ⟨b,o+4,none⟩=some (.slice (some ⟨bk,ok,none⟩) x.ks.len cap)∧wx.cell? ⟨g8,0,none⟩=some (.int .i64 u)∧wx.cell? ⟨g8,1,none⟩=some (.slice Az zs.length cz)) (i:=0) (v:=?vr0) hB rfl (by decide) (by kernel_rfl) (by kernel_rfl) (fun _ _ _ h=>h) (Or.inl ⟨by rfl, ?yr0⟩) hHeld ?rr0
   case yr0=>((intro w hSw;(try dsimp only at hSw);go_simp)<;>with_reducible rfl)
   (try simp only [Act.put,List.setIfInBounds_toArray,List.set_cons_zero,List.set_cons_succ])
   refine RegE.takeL (S:=fun wx=>wx.cell? ⟨b,o+4,none⟩=some (.slice (some ⟨bk,ok,none⟩) x.ks.len cap)∧wx.cell? ⟨g8,0,none⟩=some (.int .i64 u)∧wx.cell? ⟨g8,1,none⟩=some (.slice Az zs.length cz)) (i:=1) (v:=?vr1) hB rfl (by decide) (by kernel_rfl) (by kernel_rfl) (fun _ _ _ h=>h) (Or.inl ⟨by rfl, ?yr1⟩) hHeld ?rr1
   case yr1=>((intro w hSw;(try dsimp only at hSw);go_simp)<;>with_reducible rfl)
   (try simp only [Act.put,List.setIfInBounds_toArray,List.set_cons_zero,List.set_cons_succ])
   refine RegE.takeL (S:=fun wx=>wx.cell? ⟨b,o+4,none⟩=some (.slice (some ⟨bk,ok,none⟩) x.ks.len cap)∧wx.cell? ⟨g8,0,none⟩=some (.int .i64 u)∧wx.cell? ⟨g8,1,none⟩=some (.slice Az zs.length cz)) (i:=2) (v:=?vr2) hB rfl (by decide) (by kernel_rfl) (by kernel_rfl) (fun _ _ _ h=>h) (Or.inl ⟨by rfl, ?yr2⟩) hHeld ?rr2
   case yr2=>((intro w hSw;(try dsimp only at hSw);go_simp)<;>with_reducible rfl)
   (try simp only [Act.put,List.setIfInBounds_toArray,List.set_cons_zero,List.set_cons_succ])
   refine RegE.takeL (S:=fun wx=>wx.cell? ⟨b,o+4,none⟩=some (.slice (some ⟨bk,ok,none⟩) x.ks.len cap)∧wx.cell? ⟨g8,0,none⟩=some (.int .i64 u)∧wx.cell? ⟨g8,1,none⟩=some (.slice Az zs.length cz)) (i:=3) (v:=?vr3) hB rfl (by decide) (by kernel_rfl) (by kernel_rfl) (fun _ _ _ h=>h) (Or.inl ⟨by rfl, ?yr3⟩) hHeld ?rr3
   case yr3=>((intro w hSw;(try dsimp only at hSw);go_simp)<;>with_reducible rfl)
   (try simp only [Act.put,List.setIfInBounds_toArray,List.set_cons_zero,List.set_cons_succ])
   refine RegE.takeL (S:=fun wx=>wx.cell? ⟨b,o+4,none⟩=some (.slice (some ⟨bk,ok,none⟩) x.ks.len cap)∧wx.cell? ⟨g8,0,none⟩=some (.int .i64 u)∧wx.cell? ⟨g8,1,none⟩=some (.slice Az zs.length cz)) (i:=4) (v:=?vr4) hB rfl (by decide) (by kernel_rfl) (by kernel_rfl) (fun _ _ _ h=>h) (Or.inl ⟨by rfl, ?yr4⟩) hHeld ?rr4
   case yr4=>((intro w hSw;(try dsimp only at hSw);go_simp)<;>with_reducible rfl)
   (try simp only [Act.put,List.setIfInBounds_toArray,List.set_cons_zero,List.set_cons_succ])
   refine RegE.takeL (S:=fun wx=>wx.cell? ⟨b,o+4,none⟩=some (.slice (some ⟨bk,ok,none⟩) x.ks.len cap)∧wx.cell? ⟨g8,0,none⟩=some (.int .i64 u)∧wx.cell? ⟨g8,1,none⟩=some (.slice Az zs.length cz)) (i:=5) (v:=?vr5) hB rfl (by decide) (by kernel_rfl) (by kernel_rfl) (fun _ _ _ h=>h) (Or.inl ⟨by rfl, ?yr5⟩) hHeld ?rr5
   case yr5=>((intro w hSw;(try dsimp only at hSw);go_simp)<;>with_reducible rfl)
   (try simp only [Act.put,List.setIfInBounds_toArray,List.set_cons_zero,List.set_cons_succ])
   refine RegE.takeL (S:=fun wx=>wx.cell? ⟨b,o+4,none⟩=some (.slice (some ⟨bk,ok,none⟩) x.ks.len cap)∧wx.cell? ⟨g8,0,none⟩=some (.int .i64 u)∧wx.cell? ⟨g8,1,none⟩=some (.slice Az zs.length cz)) (i:=6) (v:=?vr6) hB rfl (by decide) (by kernel_rfl) (by kernel_rfl) (fun _ _ _ h=>h) (Or.inl ⟨by rfl, ?yr6⟩) hHeld ?rr6
   case yr6=>((intro w hSw;(try dsimp only at hSw);go_simp)<;>with_reducible rfl)
   (try simp only [Act.put,List.setIfInBounds_toArray,List.set_cons_zero,List.set_cons_succ])
   refine RegE.takeL (S:=fun wx=>wx.cell? ⟨b,o+4,none⟩=some (.slice (some ⟨bk,ok,none⟩) x.ks.len cap)∧wx.cell? ⟨g8,0,none⟩=some (.int .i64 u)∧wx.cell? ⟨g8,1,none⟩=some (.slice Az zs.length cz)) (i:=7) (v:=?vr7) hB rfl (by decide) (by kernel_rfl) (by kernel_rfl) (fun _ _ _ h=>h) (Or.inl ⟨by rfl, ?yr7⟩) hHeld ?rr7
   case yr7=>((intro w hSw;(try dsimp only at hSw);go_simp)<;>with_reducible rfl)
   (try simp only [Act.put,List.setIfInBounds_toArray,List.set_cons_zero,List.set_cons_succ])
   refine RegE.stepL (i:=8) rfl (by decide) (by kernel_rfl) (fun K hK=>?_)
   go_simp
   refine hK.out _ _ ?Sr8 (fun hHeldN=>?_)
   case Sr8=>((try dsimp only);exact HKEEP.out _ HOA.out)
   clear hK K hHeld
   have hHeld:=hHeldN
   clear hHeldN
   (try simp only [Act.put,List.setIfInBounds_toArray,List.set_cons_zero,List.set_cons_succ])
   refine RegE.stepL (i:=9) rfl (by decide) (by kernel_rfl) (fun K hK=>?_)
   refine step_append_at rfl (.tmp 104) (.tmp 106) 162 rfl W2.heap.size 86 i0 (.agg #[.int .i64 0,.slice none 0 0]) 2 32 Tryz.underlying162 hi hz0 hz1 hz2 rfl (by decide) _ _ _ (by simp [Act.eval]) HOW.out ⟨wr.heap.size,0,none⟩ 1 1 (poD u (zs,Az,cz)) (by simp [Act.eval]) rfl (fun q z hz=>by rw [addr_add,Nat.zero_add];exact (HC2.out.cell q).trans hz) (by intro z hz;simp only [poD,List.mem_cons,List.not_mem_nil,or_false] at hz;rcases hz with rfl | rfl<;>rfl) (by simp only [List.length_map];rw [hpl];exact HMX.out.1) (by simp only [List.length_map];rw [hpl];exact HMX.out.2) (by have:=HB2.out.size;omega) ?_
   intro v2 w2 hown0 hg2 hat
   obtain ⟨hp2,hbl⟩:=PRow.push (p:=(zs,Az,cz)) HG1.out (by rw [HPS.out];exact HOKS.out) HKP.out hG.out.1 (Below.refl _ _) HPA.out.1 HPA.out.2 HB2.out hown0 hg2 hat
   rw [HPS.out,List.take_length] at hp2
   obtain ⟨A3,c3,rfl,q1,q2,q3⟩:=hp2.env (fun q e=>HSI2.out.lt q e)
   rw [List.length_append] at *
   have hBl:=HBW.out.trans hbl
   have hO3:Only (fun q=>q=bv) W2 w2:=Only.of_below hBl
   refine hK.out _ _ ?Sr9 (fun hHeldN=>?_)
   case Sr9=>((try dsimp only);exact HKEEP.out _ hO3)
   clear hK K hHeld
   have hHeld:=hHeldN
   clear hHeldN
   (try simp only [Act.put,List.setIfInBounds_toArray,List.set_cons_zero,List.set_cons_succ])
   refine RegE.stepL (i:=10) rfl (by decide) (by kernel_rfl) (fun K hK=>?_)
   go_simp
   go_at_call 123
   refine (HCALL.out A3 c3 w2 hBl q3 q1 q2).mono ?_
   rintro e w3 ⟨A4,n4,cp4,rfl,hE,hO4⟩
   refine hK.out _ _ ?Sr10 (fun hHeldN=>?_)
   case Sr10=>((try dsimp only);exact HKEEP.out _ (hO3.trans hO4))
   clear hK K hHeld
   have hHeld:=hHeldN
   clear hHeldN
   (try simp only [Act.put,List.setIfInBounds_toArray,List.set_cons_zero,List.set_cons_succ])
   obtain ⟨⟨c0,c1,q0',q1'⟩,⟨y0,y1⟩,HE2⟩:=hE
   refine RegE.lastL rfl (by kernel_rfl) (by kernel_rfl) (fun K hK=>?_)
   go_simp
   refine hK.out _ _ ?_
   clear hK K
   have HE3:=hid HE2
   clear HE2 hO3 hO4 hp2 hbl hBl hown0 hg2 hat q1 q2 q3
   go_wp2
   refine bodyPost_ret (v:=poV u A4 n4 cp4) (by simp [results,Tryz.results123,go_sem,y0,y1]) rfl ?_
   exact HE3.out
end
end Go.Proofs.YtgfkglhelfkpoaaGreat
