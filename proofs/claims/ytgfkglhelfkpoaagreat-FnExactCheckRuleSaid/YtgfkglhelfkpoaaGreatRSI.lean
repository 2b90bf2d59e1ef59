/- Texts put together: WAddI, WAddS2, WAddS3, WAddB, WOrd. -/
import Derived.Test.YtgfkglhelfkpoaaGreatRSH
import Derived.Test.YtgfkglhelfkpoaaGreatRP
set_option maxRecDepth 100000
set_option maxHeartbeats 4000000
open Go.Lib (hid)
namespace Go.Proofs.YtgfkglhelfkpoaaGreat
section
open Go.RowKit Plain
end
section
open Go.RowKit Plain
theorem TRow.keepT {w w':World} {B p:Nat} {t:TypeId} {v:Value} {ts:List Term'} (h:TRow w B v ts) (hp:Typed w p t) (h1:t≠173) (h2:t≠2) (hb:∀ q,q<w.heap.size→q≠p→w'.heap[q]? = w.heap[q]?):TRow w' B v ts:=by
 obtain ⟨us,h⟩:=h
 refine ⟨us,h.len,ownsRow_keep2 h.own fun g hg=>?_,fun i u t hu ht=>?_,h.dist⟩
 ·exact hb g (World.ownsRow.lt h.own g hg).2 ((own2_typed h.own hg).ne hp (Ne.symm h1))
 ·obtain ⟨h3,h4⟩:=h.row i u t hu ht
  exact ⟨h3,h4.keep fun g hg=>hb g (h4.lt hg).2 ((own_typed h4 hg).ne hp (Ne.symm h2))⟩
structure ASt (w0:World) (B p:Nat) (vars:Int) (L:List Term') (n:Nat) (out:List Term') (m cp:Nat) (A:Option Addr) (wr:World):Prop where
 box:Cells wr p 86 [.int .i64 vars,.slice A m cp]
 rbox:Cells wr w0.heap.size 86 [.int .i64 0,.slice none 0 0]
 len:out.length=m
 row:TRow wr B (.slice A m cp) out
 canon:Canon out
 cofs:∀ e,cof out e=cof L e
 lenT:LenT n out
 below:Below w0.heap.size w0 wr
 B0:w0.heap.size<B
 pB:B≤p
theorem ASt.row' {w0 wr:World} {B p n:Nat} {vars:Int} {L out:List Term'} {m cp:Nat} {A:Option Addr} (h:ASt w0 B p vars L n out m cp A wr):TRow wr B (.slice A out.length cp) out:=by rw [h.len];exact h.row
theorem ASt.size {w0 wr:World} {B p n:Nat} {vars:Int} {L out:List Term'} {m cp:Nat} {A:Option Addr} (h:ASt w0 B p vars L n out m cp A wr):B≤wr.heap.size:=by have:=h.box.lt;have:=h.pB;omega
theorem ASt.put {w0 w3 w4:World} {B p n m cp c4:Nat} {vars c:Int} {L out ts4:List Term'} {A A4:Option Addr} {E:List Int} (h:ASt w0 B p vars L n out m cp A w3) (hn:E.length=n) (hr:TRow w4 B (.slice A4 ts4.length c4) ts4) (hc:Canon ts4)
  (hco:∀ x,cof ts4 x=if E=x then pl c (cof out E) else cof out x) (hl:LenT E.length ts4) (hb:Below w3.heap.size w3 w4):ASt w0 B p vars (L++[(E,c)]) n ts4 ts4.length c4 A4 (w4.setCell ⟨p,1,none⟩ (.slice A4 ts4.length c4)):=by
 have hB:=h.B0
 have hpB:=h.pB
 have hbx:=h.box.next hb
 refine ⟨?_, ?_,rfl, ?_,hc,fun e=>?_,hn ▸ hl, ?_,h.B0,h.pB⟩
 ·have:=hbx.set_ 1 (.slice A4 ts4.length c4)
  simpa using this
 ·exact (Below.heap_setCell _ _ _ _ (fun e=>by simp only at e;omega)).trans (h.rbox.next hb)
 ·exact hr.keepT hbx.typed (by decide) (by decide) fun q _ hq=>Below.heap_setCell _ _ _ _ hq
 ·rw [cof_append,←h.cofs]
  exact cof_put (t:=(E,c)) hco e
 ·exact (bnext h.below hb).setCell (p:=⟨p,1,none⟩) (by simp only;omega) _
theorem ASt.same {w0 wr:World} {B p n:Nat} {vars:Int} {L L' out:List Term'} {m cp:Nat} {A:Option Addr} (h:ASt w0 B p vars L n out m cp A wr) (e:L=L'):ASt w0 B p vars L' n out m cp A wr:=e ▸ h
theorem scl_take_succ {k:Int} {us:List Term'} {i:Nat} (h:i<us.length):sclT k (us.take (i+1))=sclT k (us.take i)++[((tmAt us i).1,tm (tmAt us i).2 k)]:=by
 rw [take_tm h];unfold sclT;rw [List.map_append];rfl
theorem l05Add_any (k:Int) (b1 o1 b2 o2:Nat) (u:Int) (A1 A2:Option Addr) (c1 c2:Nat) (ts us:List Term') (w:World) (h00:w.cell? ⟨b1,o1,none⟩=some (.int .i64 u)) (h01:w.cell? ⟨b1,o1+1,none⟩=some (.slice A1 ts.length c1))
  (h11:w.cell? ⟨b2,o2+1,none⟩=some (.slice A2 us.length c2)) (hT:TmsAt w A1 ts) (hU:TmsAt w A2 us) (hok:polyOk u ts=true) (hok2:polyOk u us=true) :
  Calls Tryz.prog 124 #[ptr b1 o1,ptr b2 o2,.int .i64 k] w (OwnR u (nfT (ts++sclT k us)) w):=by
 have hl120:=(polyOk_size hok2).2.2
 have hts120:=(polyOk_size hok).2.2
 have hu12:u.toNat≤12:=by have:=polyOk_size hok;omega
 obtain ⟨n,hn⟩:∃ n,n=u.toNat:=⟨_,rfl⟩
 rw [←hn] at hu12
 have HLT:Hid (LenT n us):=by rw [hn];exact polyOk_len' hok2
 have hLT1:LenT n ts:=by rw [hn];exact polyOk_len' hok
 have hW0b:Below w.heap.size w (w.alloc (.cells #[.int .i64 0,.slice none 0 0] 86)):=by go_grown
 have hsz:(w.alloc (.cells #[.int .i64 0,.slice none 0 0] 86)).heap.size=w.heap.size+1:=by simp
 have HR:=Cells.new w 86 [.int .i64 0,.slice none 0 0]
 have HSC:Hid (Calls Tryz.prog 199 #[ptr b1 o1,.int .i64 1] (w.alloc (.cells #[.int .i64 0,.slice none 0 0] 86)) fun e w1=>∃ A' cp,e=.returned (poV u A' ts.length cp)∧Below w.heap.size w w1∧ASt w (w.heap.size+1) w1.heap.size u (ts++sclT k (us.take 0)) n ts ts.length cp A' (w1.alloc (.cells #[.int .i64 u,.slice A' ts.length cp] 86))):=by
  refine (l05Scaled_any 1 (by omega) (by omega) b1 o1 u A1 c1 ts _ (keepC h00 hW0b) (keepC h01 hW0b) (hT.below hW0b) hok).mono ?_
  rintro e w1 ⟨A',cp,rfl,hrow,hb⟩
  rw [sclT_one (polyOk_canon hok)] at hrow
  rw [sclT_one (polyOk_canon hok)]
  rw [hsz] at hrow
  have hb1:=hW0b.trans (hb.mono hW0b.size)
  have hal:Below w1.heap.size w1 (w1.alloc (.cells #[.int .i64 u,.slice A' ts.length cp] 86)):=by go_grown
  refine ⟨A',cp,rfl,hb1,Cells.new w1 86 [.int .i64 u,.slice A' ts.length cp],(HR.next hb).next hal,rfl,hrow.below hal,polyOk_canon hok,fun e=>by simp [sclT],hLT1,bnext hb1 hal,by omega, ?_⟩
  have:=hb.size;omega
 have hbw2:b2<w.heap.size:=World.block_lt_of_cell? _ _ h11
 have HU:=hid hU
 have HQ:=hid h11
 have HOK:=hid hok2
 clear hn hok hok2 hT hU h00 h01 h11 hLT1 hW0b hsz HR
 go_enter Tryz.func124,Tryz.ntmps124
 go_wp2_with fail
 refine HSC.out.mono ?_
 rintro e w1 ⟨A0,cp0,rfl,hbw1,hst⟩
 have HST:=hid hst
 have hbp:w.heap.size<w1.heap.size+1:=by have:=hst.pB;omega
 clear hst HSC hbw1
 go_wp2_with fail
 generalize w1.alloc (.cells #[.int .i64 u,.slice A0 ts.length cp0] 86)=W1 at *
 obtain ⟨p,hp⟩:∃ p,p=w1.heap.size:=⟨_,rfl⟩
 rw [←hp]
 rw [←hp] at HST
 clear hp
 go_loopg [8] (us.length+1) (fun kx s8 wr=>∃ (i:Nat) (out:List Term') (m cp:Nat) (A':Option Addr),s8=.int .i64 (i:Int)∧i≤us.length∧us.length - i<kx∧m≤ts.length+i∧Hid (ASt w (w.heap.size+1) p u (ts++sclT k (us.take i)) n out m cp A' wr))
 case atStart=>exact ⟨0,ts,ts.length,cp0,A0,by first | rfl | go_num,by omega,by omega,by omega,HST⟩
 case round=>
  clear HST
  obtain ⟨i,out,m,cp,A',rfl,hin,hkx,hmi,HG⟩:=hrel
  obtain ⟨wo,rfl⟩:∃ x,x=wr:=⟨_,rfl⟩
  have HBW:Hid (Below w.heap.size w wo):=HG.out.below
  have q1:wo.cell? ⟨b2,o2+1,none⟩=some (.slice A2 us.length c2):=keepC HQ.out HBW.out
  by_cases hlt:i<us.length
  ·have hiz:(i:Int)<(us.length:Int):=by omega
   obtain ⟨bt,ot,Ai,ci,rfl,hbt,t0',t1',tI',_⟩:=HU.out.at_ hlt
   have t0:=keepC t0' HBW.out
   have t1:=keepC t1' HBW.out
   have HTI:Hid (Ints wo Ai (tmAt us i).1):=tI'.below HBW.out
   clear t0' t1' tI'
   have hlen:(tmAt us i).1.length=n:=HLT.out _ (tmAt_mem hlt)
   rw [hlen] at t0
   obtain ⟨c,hc⟩:∃ c,c=(tmAt us i).2:=⟨_,rfl⟩
   obtain ⟨E,hE⟩:∃ E,E=(tmAt us i).1:=⟨_,rfl⟩
   rw [←hc] at t1
   rw [←hE] at hlen HTI
   have HTK:Hid (ts++sclT k (us.take i)++[(E,tm c k)]=ts++sclT k (us.take (i+1))):=by show _=_;rw [scl_take_succ hlt,List.append_assoc,hE,hc]
   have HTM:=hid (fun wx=>timesS_any c k wx)
   have hbd:=tm_bd c k
   have p1:wo.cell? ⟨p,1,none⟩=some (.slice A' m cp):=by rw [HG.out.box.cell];rfl
   have pf:wo.frozen? ⟨p,1,none⟩=false:=HG.out.box.frozen _
   have HPL:Hid (p<wo.heap.size):=HG.out.box.lt
   have HPT:Hid (Calls Tryz.prog 203 #[.slice A' m cp,.slice Ai n ci,.int .i64 (tm c k)] wo.drew fun e w4=>∃ A4 c4 ts4,e=.returned (.slice A4 ts4.length c4)∧Below wo.heap.size wo w4∧ts4.length≤m+1∧ASt w (w.heap.size+1) p u (ts++sclT k (us.take (i+1))) n ts4 ts4.length c4 A4 (w4.setCell ⟨p,1,none⟩ (.slice A4 ts4.length c4))):=by
    have hm:out.length=m:=HG.out.len
    have h:=put_any (w.heap.size+1) A' Ai cp ci out E (tm c k) wo.drew (HG.out.row'.below (Below.refl _ _).drew) (show w.heap.size+1≤wo.drew.heap.size from HG.out.size) (HTI.out.below (Below.refl _ _).drew) HG.out.canon (by rw [hlen];exact HG.out.lenT) hbd.1 hbd.2 (by omega) (by omega)
    rw [hlen,hm] at h
    refine h.mono fun e w4 ⟨A4,c4,ts4,h1,h2,h3,h4,h5,h6,h7⟩=>⟨A4,c4,ts4,h1,⟨h7.os,h7.tape,h7.output,h7.size,h7.block⟩,by omega, ?_⟩
    exact (ASt.put (c:=tm c k) HG.out hlen h2 h3 h4 h5 (⟨h7.os,h7.tape,h7.output,h7.size,h7.block⟩:Below wo.heap.size wo w4)).same HTK.out
   obtain ⟨z,hz⟩:∃ z,z=tm c k:=⟨_,rfl⟩
   rw [←hz] at HPT HTM
   clear hz hbd HTK HTI HG hc hE
   have HS0:Hid (wo.cell? ⟨p,1,none⟩=some (.slice A' m cp)∧wo.cell? ⟨b2,o2+1,none⟩=some (.slice (some ⟨bt,ot,none⟩) us.length c2)∧wo.cell? ⟨bt,ot+i*2,none⟩=some (.slice Ai n ci)∧wo.cell? ⟨bt,ot+i*2+1,none⟩=some (.int .i64 c)):=⟨p1,q1,t0,t1⟩
   have HLL:Hid (p<wo.heap.size∧b2<wo.heap.size∧bt<wo.heap.size):=⟨HPL.out,by have:=HBW.out.size;omega,by have:=HBW.out.size;omega⟩
   go_wp2_with fail
   refine RegE.start (S:=(fun wx=>wx.cell? ⟨p,1,none⟩=some (.slice A' m cp)∧wx.cell? ⟨b2,o2+1,none⟩=some (.slice (some ⟨bt,ot,none⟩) us.length c2)∧wx.cell? ⟨bt,ot+i*2,none⟩=some (.slice Ai n ci)∧wx.cell? ⟨bt,ot+i*2+1,none⟩=some (.int .i64 c))) 22 (by kernel_rfl) (by kernel_rfl) ?S0 (fun hHeld hB=>?_)
   case S0=>((try dsimp only);exact HS0.out)
   refine RegE.take (i:=0) (v:=?v0) hB rfl (by decide) (by kernel_rfl) (by kernel_rfl) (fun _ _ _ h=>h) (Or.inl ⟨by rfl, ?y0⟩) hHeld ?r0
   case y0=>((intro w hSw;(try dsimp only at hSw);go_simp)<;>with_reducible rfl)
   (try simp only [Act.put,List.setIfInBounds_toArray])
   refine RegE.take (i:=1) (v:=?v1) hB rfl (by decide) (by kernel_rfl) (by kernel_rfl) (fun _ _ _ h=>h) (Or.inl ⟨by rfl, ?y1⟩) hHeld ?r1
   case y1=>((intro w hSw;(try dsimp only at hSw);go_simp)<;>with_reducible rfl)
   (try simp only [Act.put])
   refine RegE.take (i:=2) (v:=?v2) hB rfl (by decide) (by kernel_rfl) (by kernel_rfl) (fun _ _ _ h=>h) (Or.inl ⟨by rfl, ?y2⟩) hHeld ?r2
   case y2=>((intro w hSw;(try dsimp only at hSw);go_simp)<;>with_reducible rfl)
   (try simp only [Act.put])
   refine RegE.take (i:=3) (v:=?v3) hB rfl (by decide) (by kernel_rfl) (by kernel_rfl) (fun _ _ _ h=>h) (Or.inl ⟨by rfl, ?y3⟩) hHeld ?r3
   case y3=>((intro w hSw;(try dsimp only at hSw);go_simp)<;>with_reducible rfl)
   (try simp only [Act.put])
   refine RegE.take (i:=4) (v:=?v4) hB rfl (by decide) (by kernel_rfl) (by kernel_rfl) (fun _ _ _ h=>h) (Or.inl ⟨by rfl, ?y4⟩) hHeld ?r4
   case y4=>((intro w hSw;(try dsimp only at hSw);go_simp)<;>with_reducible rfl)
   (try simp only [Act.put])
   refine RegE.take (i:=5) (v:=?v5) hB rfl (by decide) (by kernel_rfl) (by kernel_rfl) (fun _ _ _ h=>h) (Or.inl ⟨by rfl, ?y5⟩) hHeld ?r5
   case y5=>((intro w hSw;(try dsimp only at hSw);go_simp)<;>with_reducible rfl)
   (try simp only [Act.put])
   refine RegE.take (i:=6) (v:=?v6) hB rfl (by decide) (by kernel_rfl) (by kernel_rfl) (fun _ _ _ h=>h) (Or.inl ⟨by rfl, ?y6⟩) hHeld ?r6
   case y6=>((intro w hSw;(try dsimp only at hSw);go_simp)<;>with_reducible rfl)
   (try simp only [Act.put])
   refine RegE.take (i:=7) (v:=?v7) hB rfl (by decide) (by kernel_rfl) (by kernel_rfl) (fun _ _ _ h=>h) (Or.inl ⟨by rfl, ?y7⟩) hHeld ?r7
   case y7=>((intro w hSw;(try dsimp only at hSw);go_simp)<;>with_reducible rfl)
   (try simp only [Act.put])
   refine RegE.take (i:=8) (v:=?v8) hB rfl (by decide) (by kernel_rfl) (by kernel_rfl) (fun _ _ _ h=>h) (Or.inl ⟨by rfl, ?y8⟩) hHeld ?r8
   case y8=>((intro w hSw;(try dsimp only at hSw);go_simp)<;>with_reducible rfl)
   (try simp only [Act.put])
   refine RegE.take (i:=9) (v:=?v9) hB rfl (by decide) (by kernel_rfl) (by kernel_rfl) (fun _ _ _ h=>h) (Or.inl ⟨by rfl, ?y9⟩) hHeld ?r9
   case y9=>((intro w hSw;(try dsimp only at hSw);go_simp)<;>with_reducible rfl)
   (try simp only [Act.put])
   refine RegE.take (i:=10) (v:=?v10) hB rfl (by decide) (by kernel_rfl) (by kernel_rfl) (fun _ _ _ h=>h) (Or.inl ⟨by rfl, ?y10⟩) hHeld ?r10
   case y10=>((intro w hSw;(try dsimp only at hSw);go_simp)<;>with_reducible rfl)
   (try simp only [Act.put])
   refine RegE.take (i:=11) (v:=?v11) hB rfl (by decide) (by kernel_rfl) (by kernel_rfl) (fun _ _ _ h=>h) (Or.inl ⟨by rfl, ?y11⟩) hHeld ?r11
   case y11=>((intro w hSw;(try dsimp only at hSw);go_simp)<;>with_reducible rfl)
   (try simp only [Act.put])
   refine RegE.take (i:=12) (v:=?v12) hB rfl (by decide) (by kernel_rfl) (by kernel_rfl) (fun _ _ _ h=>h) (Or.inl ⟨by rfl, ?y12⟩) hHeld ?r12
   case y12=>((intro w hSw;(try dsimp only at hSw);go_simp)<;>with_reducible rfl)
   (try simp only [Act.put])
   refine RegE.take (i:=13) (v:=?v13) hB rfl (by decide) (by kernel_rfl) (by kernel_rfl) (fun _ _ _ h=>h) (Or.inl ⟨by rfl, ?y13⟩) hHeld ?r13
   case y13=>((intro w hSw;(try dsimp only at hSw);go_simp)<;>with_reducible rfl)
   (try simp only [Act.put])
   refine RegE.take (i:=14) (v:=?v14) hB rfl (by decide) (by kernel_rfl) (by kernel_rfl) (fun _ _ _ h=>h) (Or.inl ⟨by rfl, ?y14⟩) hHeld ?r14
   case y14=>((intro w hSw;(try dsimp only at hSw);go_simp)<;>with_reducible rfl)
   (try simp only [Act.put])
   refine RegE.take (i:=15) (v:=?v15) hB rfl (by decide) (by kernel_rfl) (by kernel_rfl) (fun _ _ _ h=>h) (Or.inl ⟨by rfl, ?y15⟩) hHeld ?r15
   case y15=>((intro w hSw;(try dsimp only at hSw);go_simp)<;>with_reducible rfl)
   (try simp only [Act.put])
   refine RegE.take (i:=16) (v:=?v16) hB rfl (by decide) (by kernel_rfl) (by kernel_rfl) (fun _ _ _ h=>h) (Or.inl ⟨by rfl, ?y16⟩) hHeld ?r16
   case y16=>((intro w hSw;(try dsimp only at hSw);go_simp)<;>with_reducible rfl)
   (try simp only [Act.put])
   refine RegE.take (i:=17) (v:=?v17) hB rfl (by decide) (by kernel_rfl) (by kernel_rfl) (fun _ _ _ h=>h) (Or.inl ⟨by rfl, ?y17⟩) hHeld ?r17
   case y17=>((intro w hSw;(try dsimp only at hSw);go_simp)<;>with_reducible rfl)
   (try simp only [Act.put])
   refine RegE.take (i:=18) (v:=?v18) hB rfl (by decide) (by kernel_rfl) (by kernel_rfl) (fun _ _ _ h=>h) (Or.inl ⟨by rfl, ?y18⟩) hHeld ?r18
   case y18=>((intro w hSw;(try dsimp only at hSw);go_simp)<;>with_reducible rfl)
   (try simp only [Act.put])
   refine RegE.step (i:=19) rfl (by decide) (by kernel_rfl) (fun K hK=>?_)
   go_simp
   go_at_call 125
   refine (HTM.out _).mono ?_
   rintro e w' ⟨rfl,rfl⟩
   go_wp2_with fail
   refine hK.out _ _ ?S19 (fun hHeldN=>?_)
   case S19=>((try dsimp only);exact hHeld)
   clear hK K hHeld
   have hHeld:=hHeldN
   clear hHeldN
   (try simp only [Act.put,List.setIfInBounds_toArray,List.set_cons_zero,List.set_cons_succ])
   refine RegE.step (i:=20) rfl (by decide) (by kernel_rfl) (fun K hK=>?_)
   go_simp
   go_at_call 203
   refine HPT.out.mono ?_
   rintro e w4 ⟨A4,c4,ts4,rfl,hb4,hl4,hD4⟩
   go_wp2_with fail
   refine hK.out _ _ ?S20 (fun hHeldN=>?_)
   case S20=>((try dsimp only);exact keep4b HS0.out HLL.out hb4)
   clear hK K hHeld
   have hHeld:=hHeldN
   clear hHeldN
   (try simp only [Act.put,List.setIfInBounds_toArray,List.set_cons_zero,List.set_cons_succ])
   have z1:=(hb4.cell (p:=⟨p,1,none⟩) HPL.out).trans p1
   have z2:=(hb4.frozen (p:=⟨p,1,none⟩) HPL.out).trans pf
   refine RegE.take (i:=21) (v:=?v21) hB rfl (by decide) (by kernel_rfl) (by kernel_rfl) (fun _ _ _ h=>h) (Or.inl ⟨by rfl, ?y21⟩) hHeld ?r21
   case y21=>((intro w hSw;(try dsimp only at hSw);go_simp)<;>with_reducible rfl)
   (try simp only [Act.put,List.setIfInBounds_toArray])
   refine RegE.last rfl (by kernel_rfl) (by kernel_rfl) (fun K hK=>?_)
   go_simp
   refine hK.out _ _ ?_
   clear hK K
   have HD4:=hid hD4
   clear hD4 hb4
   go_wp2
   go_roundg (us.length - (i+1)+1)
   case measure=>omega
   case rel=>exact ⟨i+1,ts4,_,c4,A4,by first | rfl | go_num,by omega,by omega,by omega,HD4⟩
  ·obtain rfl:i=us.length:=by omega
   have hb:=HG.out.box
   have x0:wo.cell? ⟨p,0,none⟩=some (.int .i64 u):=by rw [hb.cell];rfl
   have x1:wo.cell? ⟨p,1,none⟩=some (.slice A' m cp):=by rw [hb.cell];rfl
   have hC:=HG.out.rbox
   have y0:wo.cell? ⟨w.heap.size,0,none⟩=some (.int .i64 0):=by rw [hC.cell];rfl
   have y1:wo.cell? ⟨w.heap.size,1,none⟩=some (.slice none 0 0):=by rw [hC.cell];rfl
   have f0:wo.frozen? ⟨w.heap.size,0,none⟩=false:=hC.frozen _
   have f1:wo.frozen? ⟨w.heap.size,1,none⟩=false:=hC.frozen _
   have hD1:=hC.set_ 0 (.int .i64 u)
   have hD2:=hD1.set_ 1 (.slice A' m cp)
   have z0:=hD1.cell 0
   have z1:=hD2.cell 1
   simp only [List.set_cons_zero,List.set_cons_succ,List.getElem?_cons_zero,List.getElem?_cons_succ] at z0 z1
   have HE:Hid (OwnR u (nfT (ts++sclT k us)) w (.returned (poV u A' m cp)) ((wo.setCell ⟨w.heap.size,0,none⟩ (.int .i64 u)).setCell ⟨w.heap.size,1,none⟩ (.slice A' m cp))):=by
    have hlen:=HG.out.len
    have hcofs:=HG.out.cofs
    rw [List.take_length] at hcofs
    have hnf:=nfT_eq HG.out.canon hcofs
    have hB:=HG.out.B0
    have hO2:Only (fun q=>q=w.heap.size) wo ((wo.setCell ⟨w.heap.size,0,none⟩ (.int .i64 u)).setCell ⟨w.heap.size,1,none⟩ (.slice A' m cp)):=
     ⟨rfl,rfl,rfl,by simp [World.setCell],fun q _ hq=>(Below.heap_setCell _ _ _ _ hq).trans (Below.heap_setCell _ _ _ _ hq)⟩
    have hrow:=(HG.out.row').only hO2 (fun q hq e=>by have e':q=w.heap.size:=e;omega)
    refine ⟨A',cp,by rw [←hnf,hlen], ?_,(HBW.out.setCell (p:=⟨w.heap.size,0,none⟩) (Nat.le_refl _) _).setCell (p:=⟨w.heap.size,1,none⟩) (Nat.le_refl _) _⟩
    rw [←hnf]
    exact hrow.lower (by omega)
   have hz:¬ (us.length:Int)<(us.length:Int):=by omega
   clear hb hC hD1 hD2 HG
   go_wp2
   refine bodyPost_ret (v:=poV u A' m cp) (by simp [results,Tryz.results124,go_sem,z0,z1]) rfl ?_
   exact HE.out
end
section
open Go.RowKit Plain
end
section
open Go.RowKit Plain
end
section
open Go.RowKit Plain
structure OB (W wx:World) (ob:Option Nat) (T:TypeId) (Z:List Value):Prop where
 below:Below W.heap.size W wx
 box:∀ b,ob=some b→W.heap.size≤b∧Cells wx b T Z
theorem OB.start (W:World) (T:TypeId) (Z:List Value):OB W W.drew none T Z:=⟨(Below.refl _ _).drew,fun b h=>by cases h⟩
theorem OB.next {W wx w':World} {ob:Option Nat} {T:TypeId} {Z:List Value} (h:OB W wx ob T Z) (hb:Below wx.heap.size wx w'):OB W w' ob T Z:=
 ⟨bnext h.below hb,fun b e=>⟨(h.box b e).1,(h.box b e).2.next hb⟩⟩
theorem OB.al {W wx:World} {T:TypeId} {Z:List Value} (h:OB W wx none T Z):OB W (wx.alloc (.cells Z.toArray T)) (some wx.heap.size) T Z:=
 ⟨h.below.alloc h.below.size _,fun b e=>by injection e with e;subst e;exact ⟨h.below.size,Cells.new wx T Z⟩⟩
theorem OB.start2 (W:World) (T:TypeId) (Z:List Value):OB W (W.alloc (.cells Z.toArray T)).drew (some W.heap.size) T Z:=
 ⟨((Below.refl _ _).alloc (Nat.le_refl _) _).drew,fun b e=>by injection e with e;subst e;exact ⟨Nat.le_refl _,Cells.new W T Z⟩⟩
end
end Go.Proofs.YtgfkglhelfkpoaaGreat
