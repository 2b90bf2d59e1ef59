/- Texts put together: PMulD, WMulS1, WTimes. -/
import Derived.Test.YtgfkglhelfkpoaaGreatRSH
import Derived.Test.YtgfkglhelfkpoaaGreatRE
import Derived.Test.YtgfkglhelfkpoaaGreatRX
import Derived.Test.YtgfkglhelfkpoaaGreatRH
import Derived.Maps.AppendAt
set_option maxRecDepth 100000
set_option maxHeartbeats 8000000
open Go.Lib (hid)
namespace Go.Proofs.YtgfkglhelfkpoaaGreat
section
open Plain
def mdgL (ts:List Term'):Nat→Int
 | 0=>-1
 | i+1=>max (mdgL ts i) (dg (tmAt ts i))
theorem mdgL_le (ts:List Term'):∀ (n i:Nat),i<n→dg (tmAt ts i)≤mdgL ts n:=by
 intro n
 induction n with
 | zero=>intro i h;omega
 | succ n ih=>
  intro i h
  unfold mdgL
  by_cases e:i=n
  ·subst e;omega
  ·have:=ih i (by omega);omega
theorem mdgL_ex (ts:List Term'):∀ (n:Nat),0<n→(∀ i,i<n→0≤dg (tmAt ts i))→∃ i,i<n∧mdgL ts n=dg (tmAt ts i):=by
 intro n
 induction n with
 | zero=>intro h;omega
 | succ n ih=>
  intro _ h0
  unfold mdgL
  by_cases hn:n=0
  ·subst hn
   exact ⟨0,by omega,by have:=h0 0 (by omega);unfold mdgL;omega⟩
  ·obtain ⟨i,hi,e⟩:=ih (by omega) (fun i hi=>h0 i (by omega))
   by_cases hle:dg (tmAt ts n)≤mdgL ts n
   ·exact ⟨i,by omega,by omega⟩
   ·exact ⟨n,by omega,by omega⟩
theorem dg_bd {u:Int} {ts:List Term'} (h:polyOk u ts=true) {i:Nat} (hi:i<ts.length):0≤dg (tmAt ts i)∧dg (tmAt ts i)≤12:=by
 obtain ⟨_,_,_,p4,p5⟩:=termOk_parts (polyOk_mem h (tmAt_mem hi))
 exact ⟨(degL_bd p4 _).1,p5⟩
theorem mdgL_bd {u:Int} {ts:List Term'} (h:polyOk u ts=true):∀ i,i≤ts.length→-1≤mdgL ts i∧mdgL ts i≤12:=by
 intro i
 induction i with
 | zero=>intro _;unfold mdgL;omega
 | succ i ih=>
  intro hi
  have h1:=ih (by omega)
  have h2:=dg_bd h (i:=i) (by omega)
  unfold mdgL;omega
def bigP (ts us:List Term'):Prop:=ts≠[]∧us≠[]∧12<mdgL ts ts.length+mdgL us us.length
theorem bigP_ex {u:Int} {ts us:List Term'} (h1:polyOk u ts=true) (h2:polyOk u us=true):bigP ts us ↔ ∃ s∈ts,∃ t∈us,12<dg s+dg t:=by
 constructor
 ·rintro ⟨n1,n2,hd⟩
  have l1:0<ts.length:=List.length_pos_iff.2 n1
  have l2:0<us.length:=List.length_pos_iff.2 n2
  obtain ⟨i,hi,e1⟩:=mdgL_ex ts ts.length l1 (fun i hi=>(dg_bd h1 hi).1)
  obtain ⟨j,hj,e2⟩:=mdgL_ex us us.length l2 (fun i hi=>(dg_bd h2 hi).1)
  exact ⟨_,tmAt_mem hi,_,tmAt_mem hj,by omega⟩
 ·rintro ⟨s,hs,t,ht,hd⟩
  obtain ⟨i,hi,e1⟩:=List.getElem_of_mem hs
  obtain ⟨j,hj,e2⟩:=List.getElem_of_mem ht
  have f1:tmAt ts i=s:=by simp [tmAt,List.getD,hi,e1]
  have f2:tmAt us j=t:=by simp [tmAt,List.getD,hj,e2]
  have g1:=mdgL_le ts ts.length i hi
  have g2:=mdgL_le us us.length j hj
  rw [f1] at g1;rw [f2] at g2
  exact ⟨List.ne_nil_of_mem hs,List.ne_nil_of_mem ht,by omega⟩
theorem mulOk {u:Int} {ts us:List Term'} (h1:polyOk u ts=true) (h2:polyOk u us=true) (hb:¬ bigP ts us):polyOk u (nfT (prods ts us))=decide ((nfT (prods ts us)).length≤120):=by
 refine form_ok ?_ (nfT_canon _) (nfT_cof _) fun x hx=>?_
 ·unfold polyOk at h1
  simp only [Bool.and_eq_true] at h1
  exact h1.1.1
 ·obtain ⟨s,hs,t,ht,rfl⟩:=mem_prods hx
  refine ⟨prodT s t,prod_ok (polyOk_mem h1 hs) (polyOk_mem h2 ht) ?_,rfl⟩
  have:¬ 12<dg s+dg t:=fun h=>hb ((bigP_ex h1 h2).2 ⟨s,hs,t,ht,h⟩)
  omega
theorem mulBig {u:Int} {ts us:List Term'} (h1:polyOk u ts=true) (h2:polyOk u us=true) (hb:bigP ts us):polyOk u (nfT (prods ts us))=false:=by
 obtain ⟨s,hs,t,ht,hd⟩:=(bigP_ex h1 h2).1 hb
 exact form_big h1 h2 (nfT_canon _) (nfT_cof _) hs ht hd
theorem prods_length (ts us:List Term'):(prods ts us).length=ts.length*us.length:=by
 unfold prods
 induction ts with
 | nil=>simp
 | cons t ts ih=>rw [List.flatMap_cons,List.length_append,ih,List.length_map,List.length_cons,Nat.succ_mul];omega
theorem nf_bd {n B:Nat} {L:List Term'} (hl:LenT n L) (hn:n≤12) (hB:L.length≤B) (hB2:B≤20000):(nfT L).length≤B∧totT (nfT L)≤1048576:=by
 obtain ⟨s1,s2⟩:=nfT_spec L
 have hl:LenT n (nfT L):=fun t ht=>by
  obtain ⟨s,hs,e⟩:=s1 t ht
  rw [←e];exact hl s hs
 have h4:=totT_le_mul hl
 have h5:(nfT L).length*n≤20000*12:=Nat.mul_le_mul (by omega) (by omega)
 exact ⟨by omega,by omega⟩
theorem prods_lenT {n:Nat} {ts us:List Term'} (h1:LenT n ts) (h2:LenT n us):LenT n (prods ts us):=fun x hx=>by
 obtain ⟨s,hs,t,ht,rfl⟩:=mem_prods hx
 have a:=h1 s hs
 have b:=h2 t ht
 show (addL s.1 t.1).length=n
 rw [addL_length (by omega),a]
theorem bdMul {u:Int} {ts us:List Term'} (h1:polyOk u ts=true) (h2:polyOk u us=true):(nfT (prods ts us)).length≤14400∧totT (nfT (prods ts us))≤1048576:=by
 have z1:=polyOk_size h1
 have z2:=polyOk_size h2
 refine nf_bd (prods_lenT (polyOk_len' h1) (polyOk_len' h2)) (by omega) ?_ (by omega)
 rw [prods_length]
 exact Nat.mul_le_mul z1.2.2 z2.2.2
end
section
open Go.RowKit Plain
theorem degreeS_any (b o:Nat) (u:Int) (A:Option Addr) (cap:Nat) (ts:List Term') (w:World) (h1:w.cell? ⟨b,o+1,none⟩=some (.slice A ts.length cap)) (hT:TmsAt w A ts) (hok:polyOk u ts=true) :
  Calls Tryz.prog 270 #[ptr b o] w fun e w'=>e=.returned (.int .i64 (mdgL ts ts.length))∧w=w':=by
 have HT:=hid hT
 have HOK:=hid hok
 have hl:=(polyOk_size hok).2.2
 clear hT hok
 go_enter Tryz.func270,Tryz.ntmps270
 go_wp2_with fail
 go_loopg [3,4] (ts.length+1) (fun kx s3 s4 wr=>∃ (i:Nat) (m:Int),s3=.int .i64 m∧s4=.int .i64 (i:Int)∧i≤ts.length∧ts.length - i<kx∧Hid (m=mdgL ts i)∧w=wr)
 case atStart=>exact ⟨0,-1,rfl,by first | rfl | go_num,by omega,by omega,rfl,rfl⟩
 case round=>
  obtain ⟨i,m,rfl,rfl,hin,hkx,HM,rfl⟩:=hrel
  by_cases hlt:i<ts.length
  ·have hiz:(i:Int)<(ts.length:Int):=by omega
   obtain ⟨bt,ot,Ai,ci,rfl,hbt,t0,t1,tI,_⟩:=HT.out.at_ hlt
   have hok1:=termOk_parts (polyOk_mem HOK.out (tmAt_mem hlt))
   have HEX:=hid hok1.2.2.2.1
   have hn12:(tmAt ts i).1.length≤12:=by have:=polyOk_size HOK.out;have:=polyOk_len' HOK.out _ (tmAt_mem hlt);omega
   obtain ⟨E,hE⟩:∃ E,E=(tmAt ts i).1:=⟨_,rfl⟩
   rw [←hE] at t0 tI HEX hn12
   have HDG:Hid (dg (tmAt ts i)=degL E E.length):=by show _=_;unfold dg;rw [hE]
   have HTI:=hid tI
   clear hok1 hE tI t1
   go_wp2_with fail
   go_loopg [5,6] (E.length+1) (fun ky s5 s6 wr=>∃ (k:Nat),s5=.int .i64 (degL E k)∧s6=.int .i64 (k:Int)∧k≤E.length∧E.length - k<ky∧w=wr)
   case atStart=>exact ⟨0,rfl,by first | rfl | go_num,by omega,by omega,rfl⟩
   case round=>
    obtain ⟨k,rfl,rfl,hkn,hky,rfl⟩:=hrel
    have hb:=degL_bd HEX.out k
    have hb0:=hb.1
    have hb1:degL E k≤144:=by omega
    by_cases hklt:k<E.length
    ·have hkz:(k:Int)<(E.length:Int):=by omega
     obtain ⟨be,oe,rfl,_,hce⟩:=HTI.out.cfAt (by omega)
     have e0:=hce k hklt
     have hx:=expsOk_bd HEX.out k
     have hx0:=hx.1
     have hx1:=hx.2
     have HD:Hid (degL E (k+1)=degL E k+cf E k):=rfl
     clear hce hb hx
     generalize cf E k=x at *
     generalize degL E k=d at *
     go_wp2
     go_roundg (E.length - (k+1)+1)
     case measure=>omega
     case rel=>exact ⟨k+1,by rw [HD.out],by first | rfl | go_num,by omega,by omega,rfl⟩
    ·obtain rfl:k=E.length:=by omega
     have hkz:¬ (E.length:Int)<(E.length:Int):=by omega
     have HMX:=hid (fun wx=>maxS_any m (degL E E.length) wx)
     have HM2:Hid (max m (degL E E.length)=mdgL ts (i+1)):=by show _=_;unfold mdgL;rw [HM.out,HDG.out]
     clear hb
     generalize degL E E.length=d at *
     obtain ⟨z,hz⟩:∃ z,z=max m d:=⟨_,rfl⟩
     rw [←hz] at HMX HM2
     clear hz
     go_wp2_with (go_at_call 212;refine (HMX.out _).mono ?_;rintro e w' ⟨rfl,rfl⟩)
     go_roundg (ts.length - (i+1)+1)
     case measure=>omega
     case rel=>exact ⟨i+1,z,rfl,by first | rfl | go_num,by omega,by omega,HM2,rfl⟩
  ·obtain rfl:i=ts.length:=by omega
   have hiz:¬ (ts.length:Int)<(ts.length:Int):=by omega
   go_wp2
   go_ret
   exact ⟨by rw [HM.out];rfl,rfl⟩
end
section
open Go.RowKit Plain
theorem prods_len (ts us:List Term'):(prods ts us).length=ts.length*us.length:=by
 unfold prods
 induction ts with
 | nil=>simp
 | cons t ts ih=>rw [List.flatMap_cons,List.length_append,ih,List.length_map,List.length_cons,Nat.succ_mul];omega
theorem prods_take {ts us:List Term'} {i:Nat} (h:i<ts.length):prods (ts.take i) us++us.map (prodT (tmAt ts i))=prods (ts.take (i+1)) us:=by
 unfold prods
 rw [List.take_add_one,tm_get h,List.flatMap_append]
 simp
theorem map_take_succ' {us:List Term'} {j:Nat} (h:j<us.length) (s:Term'):(us.take j).map (prodT s)++[prodT s (tmAt us j)]=(us.take (j+1)).map (prodT s):=by
 rw [List.take_add_one,tm_get h,List.map_append];rfl
theorem mk_addL {a b:List Int} {n:Nat} (ha:a.length=n) (hb:b.length=n):mk n (fun k=>cf a k+cf b k)=addL a b:=by
 refine List.ext_getElem (by rw [mk_length,addL_length (by omega),ha]) fun k h1 h2=>?_
 rw [mk_length] at h1
 simp only [mk,List.getElem_map,List.getElem_range]
 have h3:=cf_addL (a:=a) (b:=b) (by omega) k
 rw [getElem_cf h2]
 exact h3.symm
theorem prodT_mk {s t:Term'} {n:Nat} {c d:Int} (hs:s.1.length=n) (ht:t.1.length=n) (hc:c=s.2) (hd:d=t.2):(mk n (fun k=>cf s.1 k+cf t.1 k),tm c d)=prodT s t:=by
 rw [mk_addL hs ht,hc,hd];rfl
theorem ints_lt {w:World} {l:List Int} {b o:Nat} (h:Ints w (some ⟨b,o,none⟩) l) (hl:0<l.length):b<w.heap.size:=by
 obtain ⟨b',o',e,hb,_⟩:=h.cfAt hl
 injection e with e;injection e with e;subst e;exact hb
theorem keep4c {w1 w2:World} {B b1 b2 b3 b4 o1 o2 o3 o4:Nat} {x1 x2 x3 x4:Value} {w0:World} (h:w1.cell? ⟨b1,o1,none⟩=some x1∧w1.cell? ⟨b2,o2,none⟩=some x2∧w1.cell? ⟨b3,o3,none⟩=some x3∧w1.cell? ⟨b4,o4,none⟩=some x4) (hl:b1<B∧b2<B∧b3<B∧b4<B) (ha:Below B w0 w1) (hb:Below B w0 w2) :
  w2.cell? ⟨b1,o1,none⟩=some x1∧w2.cell? ⟨b2,o2,none⟩=some x2∧w2.cell? ⟨b3,o3,none⟩=some x3∧w2.cell? ⟨b4,o4,none⟩=some x4:=
 ⟨(hb.cell (p:=⟨b1,o1,none⟩) hl.1).trans ((ha.cell (p:=⟨b1,o1,none⟩) hl.1).symm.trans h.1),(hb.cell (p:=⟨b2,o2,none⟩) hl.2.1).trans ((ha.cell (p:=⟨b2,o2,none⟩) hl.2.1).symm.trans h.2.1),(hb.cell (p:=⟨b3,o3,none⟩) hl.2.2.1).trans ((ha.cell (p:=⟨b3,o3,none⟩) hl.2.2.1).symm.trans h.2.2.1),(hb.cell (p:=⟨b4,o4,none⟩) hl.2.2.2).trans ((ha.cell (p:=⟨b4,o4,none⟩) hl.2.2.2).symm.trans h.2.2.2)⟩
theorem polyTimes_any (u:Int) (A1 A2:Option Addr) (c1 c2:Nat) (ts us:List Term') (w:World) (hT:TmsAt w A1 ts) (hU:TmsAt w A2 us) (hok:polyOk u ts=true) (hok2:polyOk u us=true) :
  Calls Tryz.prog 134 #[poV u A1 ts.length c1,poV u A2 us.length c2] w (PolyR u (nfT (prods ts us)) w):=by
 obtain ⟨i0,hi,hz0,hz1,hz2⟩:=info_parts Tryz.infoT
 obtain ⟨j0,hj,hy0,hy1,hy2⟩:=info_parts Tryz.infoI
 have hl1:=(polyOk_size hok).2.2
 have hl2:=(polyOk_size hok2).2.2
 obtain ⟨n,hn⟩:∃ n,n=u.toNat:=⟨_,rfl⟩
 have hn12:n≤12:=by have:=polyOk_size hok;omega
 have HN1:Hid (LenT n ts):=by rw [hn];exact polyOk_len' hok
 have HN2:Hid (LenT n us):=by rw [hn];exact polyOk_len' hok2
 have HOK1:=hid hok
 have HOK2:=hid hok2
 have HLN:Hid (∀ i j,i≤ts.length→j≤us.length→(prods (ts.take i) us++(us.take j).map (prodT (tmAt ts i))).length≤20000):=fun i j h1 h2=>by
  rw [List.length_append,prods_len,List.length_map,List.length_take,List.length_take]
  have:(min i ts.length)*us.length≤120*120:=Nat.mul_le_mul (by omega) hl2
  omega
 obtain ⟨W0,hW0⟩:∃ W0,W0=((w.alloc (.cells #[.int .i64 u,.slice A1 ts.length c1] 86)).alloc (.cells #[.int .i64 u,.slice A2 us.length c2] 86)).alloc (.cells #[.int .i64 0,.slice none 0 0] 86):=⟨_,rfl⟩
 obtain ⟨hB0,hQ1,hQ2,hQ3⟩:=boxes3 hW0
 have HB0:=hid hB0
 have HQ1:=hid hQ1
 have HQ2:=hid hQ2
 have HQ3:=hid hQ3
 have HT:Hid (TmsAt W0 A1 ts):=hT.below hB0
 have HU:Hid (TmsAt W0 A2 us):=hU.below hB0
 have HS0:Hid (W0.heap.size=w.heap.size+3):=by show _=_;rw [hW0];simp
 have HW0:=hid hW0
 have HST:Hid (LSt W0 W0.heap.size n (prods (ts.take 0) us) 0 0 (some ⟨w.heap.size+1+1+1,0,none⟩) (W0.alloc (.cells #[] 173))):=by
  rw [show w.heap.size+1+1+1=W0.heap.size from HS0.out.symm]
  exact ⟨by simp [prods],by have:=TRow.start W0;simpa [prods] using this,fun t ht=>by simp [prods] at ht,by go_grown,Nat.le_refl _,by simp⟩
 clear hn hok hok2 hT hU hW0 hB0 hQ1 hQ2 hQ3
 go_enter Tryz.func134,Tryz.ntmps134
 go_wp2_with fail
 rw [←HW0.out]
 generalize W0.alloc (.cells #[] 173)=W1 at *
 go_loopg [5,16] (ts.length+1) (fun kx s5 s16 wr=>∃ (i:Nat) (L:List Term') (m cp:Nat) (A':Option Addr),s5=.slice A' m cp∧s16=.int .i64 (i:Int)∧i≤ts.length∧ts.length - i<kx∧Hid (L=prods (ts.take i) us)∧Hid (LSt W0 W0.heap.size n L m cp A' wr))
 case atStart=>exact ⟨0,_,0,0,_,rfl,by first | rfl | go_num,by omega,by omega,(by show _=_;rfl),HST⟩
 case round=>
  clear HST
  obtain ⟨i,L,m,cp,A',rfl,rfl,hin,hkx,HLL,HG⟩:=hrel
  obtain ⟨wo,rfl⟩:∃ x,x=wr:=⟨_,rfl⟩
  by_cases hlt:i<ts.length
  ·have hiz:(i:Int)<(ts.length:Int):=by omega
   obtain ⟨bt,ot,Ai,ci,rfl,hbt,t0',t1',tI,_⟩:=HT.out.at_ hlt
   have t0:=keepC t0' HG.out.below
   have t1:=keepC t1' HG.out.below
   clear t0' t1'
   have hlen:(tmAt ts i).1.length=n:=HN1.out _ (tmAt_mem hlt)
   have hok1:=termOk_parts (polyOk_mem HOK1.out (tmAt_mem hlt))
   rw [hlen] at t0
   obtain ⟨c,hc⟩:∃ c,c=(tmAt ts i).2:=⟨_,rfl⟩
   obtain ⟨E,hE⟩:∃ E,E=(tmAt ts i).1:=⟨_,rfl⟩
   rw [←hc] at t1
   have hcb:1≤c∧c≤1000002:=by rw [hc];exact ⟨hok1.2.1,hok1.2.2.1⟩
   have HCB:=hid hcb
   have HEB:Hid (∀ k,0≤cf E k∧cf E k≤12):=fun k=>by rw [hE];exact expsOk_bd hok1.2.2.2.1 k
   have HIE:Hid (Ints W0 Ai E):=by rw [hE];exact tI
   have HEL:Hid (E.length=n):=by rw [hE];exact hlen
   have HC:=hid hc
   have HE:=hid hE
   clear hok1 hlen tI hc hE hcb
   have hbn:Below wo.heap.size wo (wo.alloc (.cells #[.slice Ai n ci,.int .i64 c] 173)):=by go_grown
   have HQA:=hid (Cells.new wo 173 [.slice Ai n ci,.int .i64 c])
   have x3:(wo.alloc (.cells #[.slice Ai n ci,.int .i64 c] 173)).cell? ⟨w.heap.size+1,1,none⟩=some (.slice A2 us.length c2):=by
    rw [((HQ2.out.next HG.out.below).next hbn).cell];rfl
   have HG1:=hid (HG.out.next hbn)
   have HOB:Hid (∀ q,(Value.slice A' m cp).ownBlock=some q→q≠wo.heap.size):=fun q hq e=>by
    obtain ⟨xs,hTP⟩:=HG.out.row
    have:=(World.ownsRow.lt hTP.own q hq).2
    omega
   have HLE0:Hid (L=prods (ts.take i) us++(us.take 0).map (prodT (tmAt ts i))):=by show _=_;rw [HLL.out];simp
   clear hbn
   go_wp2_with fail
   generalize wo.alloc (.cells #[.slice Ai n ci,.int .i64 c] 173)=W2 at *
   clear x3 HG
   go_loopg [5,23] (us.length+1) (fun ky s5 s23 wr=>∃ (j:Nat) (L:List Term') (m cp:Nat) (A':Option Addr),s5=.slice A' m cp∧s23=.int .i64 (j:Int)∧j≤us.length∧us.length - j<ky∧Hid (L=prods (ts.take i) us++(us.take j).map (prodT (tmAt ts i)))∧Hid (LSt W0 W0.heap.size n L m cp A' wr)∧Hid (∀ q,(Value.slice A' m cp).ownBlock=some q→q≠wo.heap.size)∧Hid (Cells wr wo.heap.size 173 [.slice Ai n ci,.int .i64 c]))
   case atStart=>exact ⟨0,L,m,cp,A',rfl,by first | rfl | go_num,by omega,by omega,HLE0,HG1,HOB,HQA⟩
   case round=>
    clear HG1 HOB HQA HLE0 HLL
    obtain ⟨j,L,m,cp,A',rfl,rfl,hjn,hky,HLL,HG,HOB,HQA⟩:=hrel
    obtain ⟨wi,rfl⟩:∃ x,x=wr:=⟨_,rfl⟩
    by_cases hjlt:j<us.length
    ·have hjz:(j:Int)<(us.length:Int):=by omega
     obtain ⟨bu,ou,Aj,cj,rfl,hbu,t2',t3',tJ,_⟩:=HU.out.at_ hjlt
     have t2:=keepC t2' HG.out.below
     have t3:=keepC t3' HG.out.below
     clear t2' t3'
     have hlen:(tmAt us j).1.length=n:=HN2.out _ (tmAt_mem hjlt)
     have hok1:=termOk_parts (polyOk_mem HOK2.out (tmAt_mem hjlt))
     rw [hlen] at t2
     obtain ⟨d,hd⟩:∃ d,d=(tmAt us j).2:=⟨_,rfl⟩
     obtain ⟨F,hF⟩:∃ F,F=(tmAt us j).1:=⟨_,rfl⟩
     rw [←hd] at t3
     have hdb:1≤d∧d≤1000002:=by rw [hd];exact ⟨hok1.2.1,hok1.2.2.1⟩
     have HDB:=hid hdb
     have HFB:Hid (∀ k,0≤cf F k∧cf F k≤12):=fun k=>by rw [hF];exact expsOk_bd hok1.2.2.2.1 k
     have HIF:Hid (Ints W0 Aj F):=by rw [hF];exact tJ
     have HFL:Hid (F.length=n):=by rw [hF];exact hlen
     have HPT:Hid ((mk n (fun k=>cf E k+cf F k),tm c d)=prodT (tmAt ts i) (tmAt us j)):=by
      show _=_
      rw [HE.out,hF]
      exact prodT_mk (by rw [←HE.out];exact HEL.out) hlen HC.out hd
     clear hok1 hlen tJ hd hF hdb
     have hbn:Below wi.heap.size wi (wi.alloc (.cells #[.slice Aj n cj,.int .i64 d] 173)):=by go_grown
     obtain ⟨W3,hW3⟩:∃ W3,W3=wi.alloc (.cells #[.slice Aj n cj,.int .i64 d] 173):=⟨_,rfl⟩
     have HQB:Hid (Cells W3 wi.heap.size 173 [.slice Aj n cj,.int .i64 d]):=by rw [hW3];exact Cells.new wi 173 [.slice Aj n cj,.int .i64 d]
     rw [←hW3] at hbn
     have hbn2:Below W3.heap.size W3 (W3.alloc (.cells #[] 2)):=by go_grown
     have hqa2:=(HQA.out.next hbn).next hbn2
     have x4:(W3.alloc (.cells #[] 2)).cell? ⟨wo.heap.size,0,none⟩=some (.slice Ai n ci):=by rw [hqa2.cell];rfl
     have HRS:Hid (IntRow (W3.alloc (.cells #[] 2)) W3.heap.size (.slice (some ⟨wi.heap.size+1,0,none⟩) 0 0) (mk 0 (fun k=>cf E k+cf F k))):=by
      rw [show wi.heap.size+1=W3.heap.size by rw [hW3];simp]
      exact rowStart W3 (fun k=>cf E k+cf F k)
     have HB3:=hid hbn
     have HW3:=hid hW3
     have HBS:Hid (Below W3.heap.size W3 (W3.alloc (.cells #[] 2))):=hbn2
     rw [hW3] at x4
     clear hbn hbn2 hqa2 hW3
     go_wp2_with fail
     rw [←HW3.out]
     clear x4
     generalize W3.alloc (.cells #[] 2)=W4 at *
     go_loopg [10,31] (n+1) (fun kz s10 s31 wr=>∃ (k ce:Nat) (Ae:Option Addr),s10=.slice Ae k ce∧s31=.int .i64 (k:Int)∧k≤n∧n - k<kz∧Hid (IntRow wr W3.heap.size (.slice Ae k ce) (mk k (fun k=>cf E k+cf F k)))∧Hid (Below W3.heap.size W3 wr))
     case atStart=>exact ⟨0,0,_,rfl,by first | rfl | go_num,by omega,by omega,HRS,HBS⟩
     case round=>
      clear HRS HBS
      obtain ⟨k,ce,Ae,rfl,rfl,hkn,hkz,HR,HB⟩:=hrel
      have HBI:Hid (Below wi.heap.size wi wr):=HB3.out.trans (HB.out.mono HB3.out.size)
      have hqa:Cells wr wo.heap.size 173 [.slice Ai n ci,.int .i64 c]:=HQA.out.next HBI.out
      have hqb:Cells wr wi.heap.size 173 [.slice Aj n cj,.int .i64 d]:=HQB.out.next HB.out
      by_cases hklt:k<n
      ·have hkz':(k:Int)<(n:Int):=by omega
       obtain ⟨be,oe,rfl,hbe,hce⟩:=(HIE.out.below (bnext HG.out.below HBI.out)).cfAt (by rw [HEL.out];omega)
       obtain ⟨bf,of_,rfl,hbf,hcf⟩:=(HIF.out.below (bnext HG.out.below HBI.out)).cfAt (by rw [HFL.out];omega)
       have e0:=hce k (by rw [HEL.out];exact hklt)
       have e1:=hcf k (by rw [HFL.out];exact hklt)
       have a0:wr.cell? ⟨wo.heap.size,0,none⟩=some (.slice (some ⟨be,oe,none⟩) n ci):=by rw [hqa.cell];rfl
       have b0:wr.cell? ⟨wi.heap.size,0,none⟩=some (.slice (some ⟨bf,of_,none⟩) n cj):=by rw [hqb.cell];rfl
       have hx:=HEB.out k
       have hy:=HFB.out k
       obtain ⟨x,hxx⟩:∃ x,x=cf E k:=⟨_,rfl⟩
       obtain ⟨y,hyy⟩:∃ y,y=cf F k:=⟨_,rfl⟩
       rw [←hxx] at e0 hx
       rw [←hyy] at e1 hy
       have hws:IntKind.i64.wrap (x+y)=x+y:=by rw [IntKind.wrap_i64];omega
       have HXY:Hid (x+y=(fun k=>cf E k+cf F k) k):=by show _=_;rw [hxx,hyy]
       have hW:Below wr.heap.size wr (wr.drew.alloc (.cells #[.int .i64 (x+y)] 2)):=((Below.refl _ _).drew.alloc (Nat.le_refl _) _)
       have HR1:Hid ((wr.drew.alloc (.cells #[.int .i64 (x+y)] 2)).ownsRow W3.heap.size 2 1 (.slice Ae k ce) k ((mk k (fun k=>cf E k+cf F k)).map (Value.int .i64))):=
        (HR.out.keep (w':=wr.drew.alloc (.cells #[.int .i64 (x+y)] 2)) fun g hg=>hW.block g (HR.out.lt hg).2).ownN (mk_length _ _).symm
       have HB1:=hid (bnext HB.out hW)
       have hN1:Hid (∀ j u,[Value.int .i64 (x+y)][j]? = some u→(wr.drew.alloc (.cells #[.int .i64 (x+y)] 2)).cell? ((Addr.mk wr.heap.size 0 none).add j)=some u):=by
        intro j u hj
        have hc:Cells (wr.drew.alloc (.cells #[.int .i64 (x+y)] 2)) wr.heap.size 2 [.int .i64 (x+y)]:=Cells.new wr.drew _ _
        rw [addr_add,Nat.zero_add]
        exact (hc.cell j).trans hj
       have hO1:Hid (∀ u∈[Value.int .i64 (x+y)],u.oneCell'=true):=by intro u hu;simp at hu;subst hu;rfl
       have HF2:Hid (∀ v2 w2,w2.ownsRow W3.heap.size 2 1 v2 (k+1) ((mk k (fun k=>cf E k+cf F k)).map (Value.int .i64)++[.int .i64 (x+y)])→(wr.drew.alloc (.cells #[.int .i64 (x+y)] 2)).grownBy w2 (Value.slice Ae k ce).ownBlock →
        (∃ A2 c2,v2=.slice A2 (k+1) c2)∧IntRow w2 W3.heap.size v2 (mk (k+1) (fun k=>cf E k+cf F k))∧Below W3.heap.size W3 w2):=fun v2 w2 hown hg=>rowNext HR.out HB.out hW HXY.out hown hg
       have HS0':Hid (wr.cell? ⟨wo.heap.size,0,none⟩=some (.slice (some ⟨be,oe,none⟩) n ci)∧wr.cell? ⟨wi.heap.size,0,none⟩=some (.slice (some ⟨bf,of_,none⟩) n cj)∧wr.cell? ⟨be,oe+k,none⟩=some (.int .i64 x)∧wr.cell? ⟨bf,of_+k,none⟩=some (.int .i64 y)):=⟨a0,b0,e0,e1⟩
       have HBL:Hid (wo.heap.size<W3.heap.size∧wi.heap.size<W3.heap.size∧be<W3.heap.size∧bf<W3.heap.size):=by
        have:=HQA.out.lt;have:=HQB.out.lt;have:=HB3.out.size
        have:=(HIE.out.below (bnext HG.out.below HBI.out))
        have:=HG.out.B1
        have:=ints_lt HIE.out (by rw [HEL.out];omega)
        have:=ints_lt HIF.out (by rw [HFL.out];omega)
        exact ⟨by omega,by omega,by omega,by omega⟩
       clear hce hcf hqa hqb hxx hyy hW HR
       go_wp2_with fail
       refine RegE.start (S:=(fun wx=>wx.cell? ⟨wo.heap.size,0,none⟩=some (.slice (some ⟨be,oe,none⟩) n ci)∧wx.cell? ⟨wi.heap.size,0,none⟩=some (.slice (some ⟨bf,of_,none⟩) n cj)∧wx.cell? ⟨be,oe+k,none⟩=some (.int .i64 x)∧wx.cell? ⟨bf,of_+k,none⟩=some (.int .i64 y))) 14 (by kernel_rfl) (by kernel_rfl) ?S0 (fun hHeld hB=>?_)
       case S0=>((try dsimp only);exact HS0'.out)
       refine RegE.take (i:=0) (v:=?v0) hB rfl (by decide) (by kernel_rfl) (by kernel_rfl) (fun _ _ _ h=>h) (Or.inl ⟨by rfl, ?y0⟩) hHeld ?r0
       case y0=>((intro w hSw;(try dsimp only at hSw);go_simp)<;>with_reducible rfl)
       (try simp only [Act.put,List.setIfInBounds_toArray])
       refine RegE.take (i:=1) (v:=?v1) hB rfl (by decide) (by kernel_rfl) (by kernel_rfl) (fun _ _ _ h=>h) (Or.inl ⟨by rfl, ?y1⟩) hHeld ?r1
       case y1=>((intro w hSw;(try dsimp only at hSw);go_simp)<;>with_reducible rfl)
       (try simp only [Act.put])
       refine RegE.take (i:=2) (v:=?v2) hB rfl (by decide) (by kernel_rfl) (by kernel_rfl) (fun _ _ _ h=>h) (Or.inl ⟨by rfl, ?y2⟩) hHeld ?r2
       case y2=>((intro w hSw;(try dsimp only at hSw);go_simp)<;>with_reducible rfl)
       (try simp only [Act.put])
       refine RegE.take (i:=3) (v:=?v3) hB rfl (by decide) (by kernel_rfl) (by kernel_rfl) (fun _ _ _ h=>h) (Or.inl ⟨by rfl, ?y3⟩) hHeld ?r3
       case y3=>((intro w hSw;(try dsimp only at hSw);go_simp)<;>with_reducible rfl)
       (try simp only [Act.put])
       refine RegE.take (i:=4) (v:=?v4) hB rfl (by decide) (by kernel_rfl) (by kernel_rfl) (fun _ _ _ h=>h) (Or.inl ⟨by rfl, ?y4⟩) hHeld ?r4
       case y4=>((intro w hSw;(try dsimp only at hSw);go_simp)<;>with_reducible rfl)
       (try simp only [Act.put])
       refine RegE.take (i:=5) (v:=?v5) hB rfl (by decide) (by kernel_rfl) (by kernel_rfl) (fun _ _ _ h=>h) (Or.inl ⟨by rfl, ?y5⟩) hHeld ?r5
       case y5=>((intro w hSw;(try dsimp only at hSw);go_simp)<;>with_reducible rfl)
       (try simp only [Act.put])
       refine RegE.take (i:=6) (v:=?v6) hB rfl (by decide) (by kernel_rfl) (by kernel_rfl) (fun _ _ _ h=>h) (Or.inl ⟨by rfl, ?y6⟩) hHeld ?r6
       case y6=>((intro w hSw;(try dsimp only at hSw);go_simp)<;>with_reducible rfl)
       (try simp only [Act.put])
       refine RegE.take (i:=7) (v:=?v7) hB rfl (by decide) (by kernel_rfl) (by kernel_rfl) (fun _ _ _ h=>h) (Or.inl ⟨by rfl, ?y7⟩) hHeld ?r7
       case y7=>((intro w hSw;(try dsimp only at hSw);go_simp)<;>with_reducible rfl)
       (try simp only [Act.put])
       refine RegE.take (i:=8) (v:=?v8) hB rfl (by decide) (by kernel_rfl) (by kernel_rfl) (fun _ _ _ h=>h) (Or.inl ⟨by rfl, ?y8⟩) hHeld ?r8
       case y8=>((intro w hSw;(try dsimp only at hSw);go_simp)<;>with_reducible rfl)
       (try simp only [Act.put])
       refine RegE.take (i:=9) (v:=?v9) hB rfl (by decide) (by kernel_rfl) (by kernel_rfl) (fun _ _ _ h=>h) (Or.inl ⟨by rfl, ?y9⟩) hHeld ?r9
       case y9=>((intro w hSw;(try dsimp only at hSw);go_simp)<;>with_reducible rfl)
       (try simp only [Act.put])
       refine RegE.take (i:=10) (v:=?v10) hB rfl (by decide) (by kernel_rfl) (by kernel_rfl) (fun _ _ _ h=>h) (Or.inl ⟨by rfl, ?y10⟩) hHeld ?r10
       case y10=>((intro w hSw;(try dsimp only at hSw);go_simp)<;>with_reducible rfl)
       (try simp only [Act.put])
       refine RegE.take (i:=11) (v:=?v11) hB rfl (by decide) (by kernel_rfl) (by kernel_rfl) (fun _ _ _ h=>h) (Or.inl ⟨by rfl, ?y11⟩) hHeld ?r11
       case y11=>((intro w hSw;(try dsimp only at hSw);go_simp)<;>with_reducible rfl)
       (try simp only [Act.put])
       refine RegE.step (i:=12) rfl (by decide) (by kernel_rfl) (fun K hK=>?_)
       go_simp
       refine hK.out _ _ ?S12 (fun hHeldN=>?_)
       case S12=>((try dsimp only);exact ⟨cell_al hHeld.1,cell_al hHeld.2.1,cell_al hHeld.2.2.1,cell_al hHeld.2.2.2⟩)
       clear hK K hHeld
       have hHeld:=hHeldN
       clear hHeldN
       (try simp only [Act.put,List.setIfInBounds_toArray,List.set_cons_zero,List.set_cons_succ])
       refine RegE.step (i:=13) rfl (by decide) (by kernel_rfl) (fun K hK=>?_)
       refine step_append_own rfl (.tmp 34) (.tmp 46) 28 rfl W3.heap.size 2 j0 (.int .i64 0) 1 8 Tryz.underlying28 hj hy0 hy1 hy2 rfl (by decide) (.slice Ae k ce) k _ (by simp [Act.eval]) HR1.out ⟨wr.heap.size,0,none⟩ 1 1 [.int .i64 (x+y)] (by simp [Act.eval]) rfl hN1.out hO1.out (by unfold maxLen;omega) (by omega) HB1.out.size ?_
       intro v2 w2 hown hg
       obtain ⟨⟨A2,c3,rfl⟩,hr2,hb2⟩:=HF2.out _ _ hown hg
       refine hK.out _ _ ?S13 (fun hHeldN=>?_)
       case S13=>((try dsimp only);exact keep4c HS0'.out HBL.out (HB.out) hb2)
       clear hK K hHeld
       have hHeld:=hHeldN
       clear hHeldN
       (try simp only [Act.put,List.setIfInBounds_toArray])
       refine RegE.last rfl (by kernel_rfl) (by kernel_rfl) (fun K hK=>?_)
       go_simp
       refine hK.out _ _ ?_
       clear hK K
       have HR2:=hid hr2
       have HB2:=hid hb2
       clear hr2 hb2 hown hg hHeld
       go_wp2
       go_roundg (n - (k+1)+1)
       case measure=>omega
       case rel=>exact ⟨k+1,c3,A2,rfl,by first | rfl | go_num,by omega,by omega,HR2,HB2⟩
      ·obtain rfl:k=n:=by omega
       have hkz':¬ (k:Int)<(k:Int):=by omega
       have a1:wr.cell? ⟨wo.heap.size,1,none⟩=some (.int .i64 c):=by rw [hqa.cell];rfl
       have b1:wr.cell? ⟨wi.heap.size,1,none⟩=some (.int .i64 d):=by rw [hqb.cell];rfl
       have HG2:=hid (HG.out.next HBI.out)
       have HQA2:=hid hqa
       obtain ⟨xs,hTP⟩:=HG.out.row
       have hlenL:=HG2.out.len
       subst hlenL
       have hown0:=ownsRow_keep2 hTP.own (w':=wr) fun g hg=>HBI.out.block g (World.ownsRow.lt hTP.own g hg).2
       have HTP:=hid hTP
       have hmb:=mul_bd (a:=c) (b:=d) (by have:=HCB.out;omega) HCB.out.2 (by have:=HDB.out;omega) HDB.out.2
       have hmx:0≤c*d:=hmb.1
       have hmx2:c*d≤1000004000004:=hmb.2
       have hwm:IntKind.i64.wrap (c*d)=c*d:=by rw [IntKind.wrap_i64];omega
       have hrem:(c*d).tmod 1000003=tm c d:=by unfold tm;rw [Int.tmod_eq_emod_of_nonneg hmx]
       have HRW:Hid (IntRow wr wi.heap.size (.slice Ae k ce) (mk k (fun k=>cf E k+cf F k))):=World.ownsRow.mono HR.out HB3.out.size
       have HLE:Hid (L++[(mk k (fun k=>cf E k+cf F k),tm c d)]=prods (ts.take i) us++(us.take (j+1)).map (prodT (tmAt ts i))):=by
        show _=_
        rw [HPT.out,HLL.out,List.append_assoc,map_take_succ' hjlt]
       have HLB:Hid (L.length≤20000):=by show _≤_;rw [HLL.out];exact HLN.out i j (by omega) (by omega)
       have hlb:L.length≤20000:=HLB.out
       have HSZ:Hid (W0.heap.size≤wr.heap.size):=HG2.out.B1
       clear hTP hmb hqa hqb
       go_wp2_with (at_builtin;refine wpList_append_own_at _ rfl _ _ 84 rfl W0.heap.size 173 i0 (tmV none 0 0 0) 2 32 Tryz.underlying84 hi hz0 hz1 hz2 rfl (by decide) _ L.length _ rfl (hown0.alloc _) ⟨wr.heap.size,0,none⟩ 1 1 [.slice Ae k ce,.int .i64 (tm c d)] rfl rfl ?c1 ?c2 ?c3 ?c4 ?c5 ?_)
       try (case c1=>exact cell_tmn _ _ _ _)
       try (case c2=>first | exact ⟨rfl,rfl⟩ | (intro u hu;simp at hu;rcases hu with rfl | rfl<;>rfl))
       case c3=>unfold maxLen;omega
       case c4=>omega
       case c5=>first | (have:=HSZ.out;simp;omega)
       intro v2 w5 hown hg _ hob
       have hal:Below wr.heap.size wr (wr.alloc (.cells #[.slice Ae k ce,.int .i64 (tm c d)] 173)):=by go_grown
       obtain ⟨A2,c3,rfl,hL⟩:=LSt.push (c:=tm c d) HG.out HTP.out (mk_length _ _) (HBI.out.trans (hal.mono HBI.out.size)) (HRW.out.keep fun g hg=>hal.block g (HRW.out.lt hg).2) hown hg
       have HL5:=hid hL
       have HOB5:Hid (∀ q,(Value.slice A2 (L.length+1) c3).ownBlock=some q→q≠wo.heap.size):=fun q hq e=>by
        rcases hob with h | h
        ·exact HOB.out q (by rw [←h];exact hq) e
        ·rw [hq] at h;injection h with h;have:=hal.size;have:=HQA2.out.lt;simp at *;omega
       have HQ5:Hid (Cells w5 wo.heap.size 173 [.slice Ai k ci,.int .i64 c]):=(hg.block _ (Nat.lt_of_lt_of_le HQA2.out.lt hal.size) (fun e=>HOB.out _ e.symm rfl)).trans (HQA2.out.next hal)
       clear hown hg hL hown0 HTP HG HG2 hal hob
       go_wp2
       go_roundg (us.length - (j+1)+1)
       case measure=>omega
       case rel=>exact ⟨j+1,_,L.length+1,c3,A2,rfl,by first | rfl | go_num,by omega,by omega,HLE,HL5,HOB5,HQ5⟩
    ·obtain rfl:j=us.length:=by omega
     have hjz:¬ (us.length:Int)<(us.length:Int):=by omega
     have HLE:Hid (L=prods (ts.take (i+1)) us):=by show _=_;rw [HLL.out,List.take_length,prods_take hlt]
     go_wp2
     go_roundg (ts.length - (i+1)+1)
     case measure=>omega
     case rel=>exact ⟨i+1,L,m,cp,A',rfl,by first | rfl | go_num,by omega,by omega,HLE,HG⟩
  ·obtain rfl:i=ts.length:=by omega
   have hlenL:=HG.out.len
   subst hlenL
   have hlb:L.length≤20000:=by
    have h:=HLN.out ts.length 0 (Nat.le_refl _) (Nat.zero_le _)
    rw [HLL.out];simpa using h
   have q0:wo.cell? ⟨w.heap.size,0,none⟩=some (.int .i64 u):=by rw [(HQ1.out.next HG.out.below).cell];rfl
   have HGA:=hid (gathered_any u A' cp n L wo (by omega) (by omega) (HG.out.row.rowO HG.out.lenT))
   have HRB:=hid (HQ3.out.next HG.out.below)
   have HBK:Hid (∀ q,InB L.length A' q→W0.heap.size≤q):=fun q ⟨h0,oq,e⟩=>by
    obtain ⟨us,hTP⟩:=HG.out.row
    exact (World.ownsRow.lt hTP.own q (by rw [e];rfl)).1
   have HCF:Hid (∀ R,Canon R→(∀ e,cof R e=cof L e)→R=nfT (prods ts us)):=fun R h1 h2=>nfT_eq h1 (fun e=>by rw [h2,HLL.out,List.take_length])
   have HBW:Hid (Below w.heap.size w wo):=HB0.out.trans (HG.out.below.mono HB0.out.size)
   have hwo:W0.heap.size≤wo.heap.size:=HG.out.B1
   have hw03:=HS0.out
   have hzz:¬ (ts.length:Int)<(ts.length:Int):=by omega
   go_wp2_with fail
   refine HGA.out.mono ?_
   rintro e w2 ⟨A2',cp2,R,rfl,hRT,hcan,hcof,_,_,hO⟩
   have hRE:=HCF.out R hcan hcof
   have hblk:w2.heap[w.heap.size+2]? = wo.heap[w.heap.size+2]?:=hO.block _ (by omega) (fun h=>by have:=HBK.out _ h;omega)
   have hr:Cells w2 (w.heap.size+2) 86 [.int .i64 0,.slice none 0 0]:=hblk.trans HRB.out
   have y0:w2.cell? ⟨w.heap.size+2,0,none⟩=some (.int .i64 0):=by rw [hr.cell];rfl
   have y1:w2.cell? ⟨w.heap.size+2,1,none⟩=some (.slice none 0 0):=by rw [hr.cell];rfl
   have f0:w2.frozen? ⟨w.heap.size+2,0,none⟩=false:=hr.frozen _
   have f1:w2.frozen? ⟨w.heap.size+2,1,none⟩=false:=hr.frozen _
   have hD1:=hr.set_ 0 (.int .i64 u)
   have hD2:=hD1.set_ 1 (.slice A2' R.length cp2)
   have z0:=hD1.cell 0
   have z1:=hD2.cell 1
   simp only [List.set_cons_zero,List.set_cons_succ,List.getElem?_cons_zero,List.getElem?_cons_succ] at z0 z1
   have HB2:Hid (Below w.heap.size w w2):=HBW.out.trans (hO.below (by omega) (fun k hk=>by have:=HBK.out k hk;omega))
   have HRT:=hid hRT
   have HRR:Hid (nfT (prods ts us)=R):=hRE.symm
   have hlo:w.heap.size+2<wo.heap.size:=by omega
   clear hRT hcan hcof hO hRE hblk hr hD1 hD2
   go_wp2
   refine bodyPost_ret (v:=poV u A2' R.length cp2) (by simp [results,Tryz.results134,go_sem,z0,z1]) rfl ?_
   rw [HRR.out]
   exact PolyR.of HB2.out HRT.out hlo _ _
end
end Go.Proofs.YtgfkglhelfkpoaaGreat
