/- Texts put together: WXCheckRule. -/
import Derived.Test.YtgfkglhelfkpoaaGreatRQC
import Derived.Test.YtgfkglhelfkpoaaGreatRP
import Derived.Deep.RegionHeld3
set_option maxRecDepth 100000
set_option maxHeartbeats 8000000
open Go.Lib (hid)
namespace Go.Proofs.YtgfkglhelfkpoaaGreat
section
open Go.RowKit Plain
theorem keep22 {w w':World} {p0 p1 p2 p3 p4 p5 p6 p7 p8 p9 p10 p11 p12 p13 p14 p15 p16 p17 p18 p19 p20 p21:Addr} {u0 u1 u2 u3 u4 u5 u6 u7 u8 u9 u10 u11 u12 u13 u14 u15 u16 u17 u18 u19 u20 u21:Value} (h:w.cell? p0=some u0∧w.cell? p1=some u1∧w.cell? p2=some u2∧w.cell? p3=some u3∧w.cell? p4=some u4∧w.cell? p5=some u5∧w.cell? p6=some u6∧w.cell? p7=some u7∧w.cell? p8=some u8∧w.cell? p9=some u9∧w.cell? p10=some u10∧w.cell? p11=some u11∧w.cell? p12=some u12∧w.cell? p13=some u13∧w.cell? p14=some u14∧w.cell? p15=some u15∧w.cell? p16=some u16∧w.cell? p17=some u17∧w.cell? p18=some u18∧w.cell? p19=some u19∧w.cell? p20=some u20∧w.cell? p21=some u21) (hb:Below w.heap.size w w'):w'.cell? p0=some u0∧w'.cell? p1=some u1∧w'.cell? p2=some u2∧w'.cell? p3=some u3∧w'.cell? p4=some u4∧w'.cell? p5=some u5∧w'.cell? p6=some u6∧w'.cell? p7=some u7∧w'.cell? p8=some u8∧w'.cell? p9=some u9∧w'.cell? p10=some u10∧w'.cell? p11=some u11∧w'.cell? p12=some u12∧w'.cell? p13=some u13∧w'.cell? p14=some u14∧w'.cell? p15=some u15∧w'.cell? p16=some u16∧w'.cell? p17=some u17∧w'.cell? p18=some u18∧w'.cell? p19=some u19∧w'.cell? p20=some u20∧w'.cell? p21=some u21:=
 ⟨keepC h.1 hb,keepC h.2.1 hb,keepC h.2.2.1 hb,keepC h.2.2.2.1 hb,keepC h.2.2.2.2.1 hb,keepC h.2.2.2.2.2.1 hb,keepC h.2.2.2.2.2.2.1 hb,keepC h.2.2.2.2.2.2.2.1 hb,keepC h.2.2.2.2.2.2.2.2.1 hb,keepC h.2.2.2.2.2.2.2.2.2.1 hb,keepC h.2.2.2.2.2.2.2.2.2.2.1 hb,keepC h.2.2.2.2.2.2.2.2.2.2.2.1 hb,keepC h.2.2.2.2.2.2.2.2.2.2.2.2.1 hb,keepC h.2.2.2.2.2.2.2.2.2.2.2.2.2.1 hb,keepC h.2.2.2.2.2.2.2.2.2.2.2.2.2.2.1 hb,keepC h.2.2.2.2.2.2.2.2.2.2.2.2.2.2.2.1 hb,keepC h.2.2.2.2.2.2.2.2.2.2.2.2.2.2.2.2.1 hb,keepC h.2.2.2.2.2.2.2.2.2.2.2.2.2.2.2.2.2.1 hb,keepC h.2.2.2.2.2.2.2.2.2.2.2.2.2.2.2.2.2.2.1 hb,keepC h.2.2.2.2.2.2.2.2.2.2.2.2.2.2.2.2.2.2.2.1 hb,keepC h.2.2.2.2.2.2.2.2.2.2.2.2.2.2.2.2.2.2.2.2.1 hb,keepC h.2.2.2.2.2.2.2.2.2.2.2.2.2.2.2.2.2.2.2.2.2 hb⟩
theorem lawExactCheckRule_0 (ru0:Int) (rl0 rr0:Nd) (KL0 KR0:Option Addr) (cl0 cr0:Nat) (w:World) (h0:ExSl w w.heap.size rl0.ks KL0) (hcl0:rl0.ks.len≤cl0) (hml0:cl0≤maxLen) (hr0:ExSl w w.heap.size rr0.ks KR0) (hcr0:rr0.ks.len≤cr0) (hmr0:cr0≤maxLen)  (c0:¬ rl0.ks.size+rr0.ks.size≤1048576) :
  Calls Tryz.prog 3 #[ruV ru0 rl0 KL0 cl0 rr0 KR0 cr0] w fun e w'=>e=.returned (.bool true)∧Below w.heap.size w w':=by
 have C0:=hid c0;clear c0
 have S0:=hid (And.intro h0 hr0);clear h0 hr0
 have HML0:rl0.ks.len≤9223372036854775807:=by have:=hml0;unfold maxLen at this;omega
 have HMR0:rr0.ks.len≤9223372036854775807:=by have:=hmr0;unfold maxLen at this;omega
 have HB0:Hid (Below w.heap.size w (w.alloc (.cells #[.int .i64 ru0,.int .i64 rl0.k,.int .i64 rl0.n,.int .i64 rl0.p,.int .i64 rl0.c,.slice KL0 rl0.ks.len cl0,.int .i64 rr0.k,.int .i64 rr0.n,.int .i64 rr0.p,.int .i64 rr0.c,.slice KR0 rr0.ks.len cr0] 26))):=by show Below _ _ _;go_grown
 go_enter Tryz.func3,Tryz.ntmps3
 go_wp2_with fail
 refine (szRule_any ru0 rl0 rr0 KL0 KR0 cl0 cr0 w.heap.size 1048576 _ (S0.out.1.below HB0.out) (by omega) (S0.out.2.below HB0.out) (by omega) HB0.out.size (by omega) (by omega)).mono ?_;rintro e w1 ⟨rfl,hb1⟩
 have HB1:=hid (bnext HB0.out hb1)
 clear hb1
 rw [szV_no (by have:=C0.out;omega)]
 go_wp2
 go_ret
 exact ⟨rfl,HB1.out⟩
theorem lawExactCheckRule_ok (ru0:Int) (rl0 rr0:Nd) (KL0 KR0:Option Addr) (cl0 cr0:Nat) (w:World) (h0:ExSl w w.heap.size rl0.ks KL0) (_hcl0:rl0.ks.len≤cl0) (_hml0:cl0≤maxLen) (hr0:ExSl w w.heap.size rr0.ks KR0) (_hcr0:rr0.ks.len≤cr0) (_hmr0:cr0≤maxLen) (c0:rl0.ks.size+rr0.ks.size≤1048576) :
  Calls Tryz.prog 3 #[ruV ru0 rl0 KL0 cl0 rr0 KR0 cr0] w fun e w'=>e=.returned (.bool true)∧Below w.heap.size w w':=by
 have C0:=hid c0;clear c0
 have S0:=hid (And.intro h0 hr0);clear h0 hr0
 have Z0:Hid (rl0.ks.size+rr0.ks.size≤1048576):=by have:=C0.out;show _≤_;omega
 have HML0:rl0.ks.len≤9223372036854775807:=by have:=Es.len_le_size rl0.ks;have:=Z0.out;omega
 have HMR0:rr0.ks.len≤9223372036854775807:=by have:=Es.len_le_size rr0.ks;have:=Z0.out;omega
 obtain ⟨v0,hv0⟩:∃ v:Bool,v=(chkV ru0 rl0 rr0).1.1:=⟨_,rfl⟩
 obtain ⟨v1,hv1⟩:∃ v:List Int,v=(chkV ru0 rl0 rr0).1.2:=⟨_,rfl⟩
 obtain ⟨v2,hv2⟩:∃ v:Int,v=(chkV ru0 rl0 rr0).2:=⟨_,rfl⟩
 have n1:v1.length≤4194304:=by rw [hv1];exact chkV_short ru0 rl0 rr0
 have V0:=hid hv0;clear hv0
 have V1:=hid hv1;clear hv1
 have V2:=hid hv2;clear hv2
 have HB0:Hid (Below w.heap.size w (w.alloc (.cells #[.int .i64 ru0,.int .i64 rl0.k,.int .i64 rl0.n,.int .i64 rl0.p,.int .i64 rl0.c,.slice KL0 rl0.ks.len cl0,.int .i64 rr0.k,.int .i64 rr0.n,.int .i64 rr0.p,.int .i64 rr0.c,.slice KR0 rr0.ks.len cr0] 26))):=by show Below _ _ _;go_grown
 have HS0:=hid HB0.out.size
 have BX0_0:Hid (Reg (w.alloc (.cells #[.int .i64 ru0,.int .i64 rl0.k,.int .i64 rl0.n,.int .i64 rl0.p,.int .i64 rl0.c,.slice KL0 rl0.ks.len cl0,.int .i64 rr0.k,.int .i64 rr0.n,.int .i64 rr0.p,.int .i64 rr0.c,.slice KR0 rr0.ks.len cr0] 26)) (w.heap.size) (w.heap.size+1) (fun w'=>Cells w' (w.heap.size) 26 [.int .i64 ru0,.int .i64 rl0.k,.int .i64 rl0.n,.int .i64 rl0.p,.int .i64 rl0.c,.slice KL0 rl0.ks.len cl0,.int .i64 rr0.k,.int .i64 rr0.n,.int .i64 rr0.p,.int .i64 rr0.c,.slice KR0 rr0.ks.len cr0])):=regBox (Cells.new w 26 [.int .i64 ru0,.int .i64 rl0.k,.int .i64 rl0.n,.int .i64 rl0.p,.int .i64 rl0.c,.slice KL0 rl0.ks.len cl0,.int .i64 rr0.k,.int .i64 rr0.n,.int .i64 rr0.p,.int .i64 rr0.c,.slice KR0 rr0.ks.len cr0])
 have HQB0:=hid BX0_0.out.size
 go_enter Tryz.func3,Tryz.ntmps3
 have qBX0_0:World.cell? (w.alloc (.cells #[.int .i64 ru0,.int .i64 rl0.k,.int .i64 rl0.n,.int .i64 rl0.p,.int .i64 rl0.c,.slice KL0 rl0.ks.len cl0,.int .i64 rr0.k,.int .i64 rr0.n,.int .i64 rr0.p,.int .i64 rr0.c,.slice KR0 rr0.ks.len cr0] 26)) ⟨w.heap.size,0,none⟩=some (.int .i64 ru0):=by rw [BX0_0.out.now.cell];rfl
 have qBX0_1:World.cell? (w.alloc (.cells #[.int .i64 ru0,.int .i64 rl0.k,.int .i64 rl0.n,.int .i64 rl0.p,.int .i64 rl0.c,.slice KL0 rl0.ks.len cl0,.int .i64 rr0.k,.int .i64 rr0.n,.int .i64 rr0.p,.int .i64 rr0.c,.slice KR0 rr0.ks.len cr0] 26)) ⟨w.heap.size,1,none⟩=some (.int .i64 rl0.k):=by rw [BX0_0.out.now.cell];rfl
 have qBX0_2:World.cell? (w.alloc (.cells #[.int .i64 ru0,.int .i64 rl0.k,.int .i64 rl0.n,.int .i64 rl0.p,.int .i64 rl0.c,.slice KL0 rl0.ks.len cl0,.int .i64 rr0.k,.int .i64 rr0.n,.int .i64 rr0.p,.int .i64 rr0.c,.slice KR0 rr0.ks.len cr0] 26)) ⟨w.heap.size,2,none⟩=some (.int .i64 rl0.n):=by rw [BX0_0.out.now.cell];rfl
 have qBX0_3:World.cell? (w.alloc (.cells #[.int .i64 ru0,.int .i64 rl0.k,.int .i64 rl0.n,.int .i64 rl0.p,.int .i64 rl0.c,.slice KL0 rl0.ks.len cl0,.int .i64 rr0.k,.int .i64 rr0.n,.int .i64 rr0.p,.int .i64 rr0.c,.slice KR0 rr0.ks.len cr0] 26)) ⟨w.heap.size,3,none⟩=some (.int .i64 rl0.p):=by rw [BX0_0.out.now.cell];rfl
 have qBX0_4:World.cell? (w.alloc (.cells #[.int .i64 ru0,.int .i64 rl0.k,.int .i64 rl0.n,.int .i64 rl0.p,.int .i64 rl0.c,.slice KL0 rl0.ks.len cl0,.int .i64 rr0.k,.int .i64 rr0.n,.int .i64 rr0.p,.int .i64 rr0.c,.slice KR0 rr0.ks.len cr0] 26)) ⟨w.heap.size,4,none⟩=some (.int .i64 rl0.c):=by rw [BX0_0.out.now.cell];rfl
 have qBX0_5:World.cell? (w.alloc (.cells #[.int .i64 ru0,.int .i64 rl0.k,.int .i64 rl0.n,.int .i64 rl0.p,.int .i64 rl0.c,.slice KL0 rl0.ks.len cl0,.int .i64 rr0.k,.int .i64 rr0.n,.int .i64 rr0.p,.int .i64 rr0.c,.slice KR0 rr0.ks.len cr0] 26)) ⟨w.heap.size,5,none⟩=some (.slice KL0 rl0.ks.len cl0):=by rw [BX0_0.out.now.cell];rfl
 have qBX0_6:World.cell? (w.alloc (.cells #[.int .i64 ru0,.int .i64 rl0.k,.int .i64 rl0.n,.int .i64 rl0.p,.int .i64 rl0.c,.slice KL0 rl0.ks.len cl0,.int .i64 rr0.k,.int .i64 rr0.n,.int .i64 rr0.p,.int .i64 rr0.c,.slice KR0 rr0.ks.len cr0] 26)) ⟨w.heap.size,6,none⟩=some (.int .i64 rr0.k):=by rw [BX0_0.out.now.cell];rfl
 have qBX0_7:World.cell? (w.alloc (.cells #[.int .i64 ru0,.int .i64 rl0.k,.int .i64 rl0.n,.int .i64 rl0.p,.int .i64 rl0.c,.slice KL0 rl0.ks.len cl0,.int .i64 rr0.k,.int .i64 rr0.n,.int .i64 rr0.p,.int .i64 rr0.c,.slice KR0 rr0.ks.len cr0] 26)) ⟨w.heap.size,7,none⟩=some (.int .i64 rr0.n):=by rw [BX0_0.out.now.cell];rfl
 have qBX0_8:World.cell? (w.alloc (.cells #[.int .i64 ru0,.int .i64 rl0.k,.int .i64 rl0.n,.int .i64 rl0.p,.int .i64 rl0.c,.slice KL0 rl0.ks.len cl0,.int .i64 rr0.k,.int .i64 rr0.n,.int .i64 rr0.p,.int .i64 rr0.c,.slice KR0 rr0.ks.len cr0] 26)) ⟨w.heap.size,8,none⟩=some (.int .i64 rr0.p):=by rw [BX0_0.out.now.cell];rfl
 have qBX0_9:World.cell? (w.alloc (.cells #[.int .i64 ru0,.int .i64 rl0.k,.int .i64 rl0.n,.int .i64 rl0.p,.int .i64 rl0.c,.slice KL0 rl0.ks.len cl0,.int .i64 rr0.k,.int .i64 rr0.n,.int .i64 rr0.p,.int .i64 rr0.c,.slice KR0 rr0.ks.len cr0] 26)) ⟨w.heap.size,9,none⟩=some (.int .i64 rr0.c):=by rw [BX0_0.out.now.cell];rfl
 have qBX0_10:World.cell? (w.alloc (.cells #[.int .i64 ru0,.int .i64 rl0.k,.int .i64 rl0.n,.int .i64 rl0.p,.int .i64 rl0.c,.slice KL0 rl0.ks.len cl0,.int .i64 rr0.k,.int .i64 rr0.n,.int .i64 rr0.p,.int .i64 rr0.c,.slice KR0 rr0.ks.len cr0] 26)) ⟨w.heap.size,10,none⟩=some (.slice KR0 rr0.ks.len cr0):=by rw [BX0_0.out.now.cell];rfl
 go_wp2_with fail
 refine (szRule_any ru0 rl0 rr0 KL0 KR0 cl0 cr0 w.heap.size 1048576 _ (S0.out.1.below HB0.out) (by omega) (S0.out.2.below HB0.out) (by omega) HB0.out.size (by omega) (by omega)).mono ?_;rintro e w1 ⟨rfl,hb1⟩
 clear qBX0_0 qBX0_1 qBX0_2 qBX0_3 qBX0_4 qBX0_5 qBX0_6 qBX0_7 qBX0_8 qBX0_9 qBX0_10
 have HB1:=hid (bnext HB0.out hb1)
 have BX0_1:=hid (BX0_0.out.below hb1);clear BX0_0
 have HS1:=hid hb1.size
 clear hb1
 rw [szV_yes (by have:=C0.out;omega)]
 obtain ⟨l0,hlv0⟩:∃ l0:Int,l0=1048576 - (rl0.ks.size+rr0.ks.size:Nat):=⟨_,rfl⟩
 rw [←hlv0]
 have lo0:0≤l0:=by have:=C0.out;omega
 have hi0:l0≤1048576:=by omega
 have HL0:=hid hlv0;clear hlv0
 have qBX0_0:World.cell? w1 ⟨w.heap.size,0,none⟩=some (.int .i64 ru0):=by rw [BX0_1.out.now.cell];rfl
 have qBX0_1:World.cell? w1 ⟨w.heap.size,1,none⟩=some (.int .i64 rl0.k):=by rw [BX0_1.out.now.cell];rfl
 have qBX0_2:World.cell? w1 ⟨w.heap.size,2,none⟩=some (.int .i64 rl0.n):=by rw [BX0_1.out.now.cell];rfl
 have qBX0_3:World.cell? w1 ⟨w.heap.size,3,none⟩=some (.int .i64 rl0.p):=by rw [BX0_1.out.now.cell];rfl
 have qBX0_4:World.cell? w1 ⟨w.heap.size,4,none⟩=some (.int .i64 rl0.c):=by rw [BX0_1.out.now.cell];rfl
 have qBX0_5:World.cell? w1 ⟨w.heap.size,5,none⟩=some (.slice KL0 rl0.ks.len cl0):=by rw [BX0_1.out.now.cell];rfl
 have qBX0_6:World.cell? w1 ⟨w.heap.size,6,none⟩=some (.int .i64 rr0.k):=by rw [BX0_1.out.now.cell];rfl
 have qBX0_7:World.cell? w1 ⟨w.heap.size,7,none⟩=some (.int .i64 rr0.n):=by rw [BX0_1.out.now.cell];rfl
 have qBX0_8:World.cell? w1 ⟨w.heap.size,8,none⟩=some (.int .i64 rr0.p):=by rw [BX0_1.out.now.cell];rfl
 have qBX0_9:World.cell? w1 ⟨w.heap.size,9,none⟩=some (.int .i64 rr0.c):=by rw [BX0_1.out.now.cell];rfl
 have qBX0_10:World.cell? w1 ⟨w.heap.size,10,none⟩=some (.slice KR0 rr0.ks.len cr0):=by rw [BX0_1.out.now.cell];rfl
 go_wp2_with fail
 refine (toRuleR ru0 rl0 rr0 KL0 KR0 cl0 cr0 w.heap.size _ ⟨S0.out.1.below HB1.out,S0.out.2.below HB1.out⟩ HB1.out.size Z0.out).mono ?_;rintro e w2 ⟨ga2,gb2,g2,hg2,rfl,hX2,hb2⟩
 clear qBX0_0 qBX0_1 qBX0_2 qBX0_3 qBX0_4 qBX0_5 qBX0_6 qBX0_7 qBX0_8 qBX0_9 qBX0_10
 have HB2:=hid (bnext HB1.out hb2)
 have BX0_2:=hid (BX0_1.out.below hb2);clear BX0_1
 have HS2:=hid hb2.size
 clear hb2
 have HG2:=hid hg2;clear hg2
 have U0_2:=hid hX2;clear hX2
 have HQ2:=hid U0_2.out.le
 have qBX0_0:World.cell? w2 ⟨w.heap.size,0,none⟩=some (.int .i64 ru0):=by rw [BX0_2.out.now.cell];rfl
 have qBX0_1:World.cell? w2 ⟨w.heap.size,1,none⟩=some (.int .i64 rl0.k):=by rw [BX0_2.out.now.cell];rfl
 have qBX0_2:World.cell? w2 ⟨w.heap.size,2,none⟩=some (.int .i64 rl0.n):=by rw [BX0_2.out.now.cell];rfl
 have qBX0_3:World.cell? w2 ⟨w.heap.size,3,none⟩=some (.int .i64 rl0.p):=by rw [BX0_2.out.now.cell];rfl
 have qBX0_4:World.cell? w2 ⟨w.heap.size,4,none⟩=some (.int .i64 rl0.c):=by rw [BX0_2.out.now.cell];rfl
 have qBX0_5:World.cell? w2 ⟨w.heap.size,5,none⟩=some (.slice KL0 rl0.ks.len cl0):=by rw [BX0_2.out.now.cell];rfl
 have qBX0_6:World.cell? w2 ⟨w.heap.size,6,none⟩=some (.int .i64 rr0.k):=by rw [BX0_2.out.now.cell];rfl
 have qBX0_7:World.cell? w2 ⟨w.heap.size,7,none⟩=some (.int .i64 rr0.n):=by rw [BX0_2.out.now.cell];rfl
 have qBX0_8:World.cell? w2 ⟨w.heap.size,8,none⟩=some (.int .i64 rr0.p):=by rw [BX0_2.out.now.cell];rfl
 have qBX0_9:World.cell? w2 ⟨w.heap.size,9,none⟩=some (.int .i64 rr0.c):=by rw [BX0_2.out.now.cell];rfl
 have qBX0_10:World.cell? w2 ⟨w.heap.size,10,none⟩=some (.slice KR0 rr0.ks.len cr0):=by rw [BX0_2.out.now.cell];rfl
 go_wp2_with fail
 refine (checkS' ru0 rl0 rr0 _ (regRule U0_2.out Z0.out)).mono ?_
 rw [←V0.out,←V1.out,←V2.out]
 rintro e w3 ⟨hb3,AR1,cR1,rfl,hR3⟩
 clear U0_2
 clear qBX0_0 qBX0_1 qBX0_2 qBX0_3 qBX0_4 qBX0_5 qBX0_6 qBX0_7 qBX0_8 qBX0_9 qBX0_10
 have HB3:=hid (bnext HB2.out hb3)
 have BX0_3:=hid (BX0_2.out.below hb3);clear BX0_2
 have HS3:=hid hb3.size
 clear hb3
 have R1_3:=hid hR3;clear hR3
 have qBX0_0:World.cell? w3 ⟨w.heap.size,0,none⟩=some (.int .i64 ru0):=by rw [BX0_3.out.now.cell];rfl
 have qBX0_1:World.cell? w3 ⟨w.heap.size,1,none⟩=some (.int .i64 rl0.k):=by rw [BX0_3.out.now.cell];rfl
 have qBX0_2:World.cell? w3 ⟨w.heap.size,2,none⟩=some (.int .i64 rl0.n):=by rw [BX0_3.out.now.cell];rfl
 have qBX0_3:World.cell? w3 ⟨w.heap.size,3,none⟩=some (.int .i64 rl0.p):=by rw [BX0_3.out.now.cell];rfl
 have qBX0_4:World.cell? w3 ⟨w.heap.size,4,none⟩=some (.int .i64 rl0.c):=by rw [BX0_3.out.now.cell];rfl
 have qBX0_5:World.cell? w3 ⟨w.heap.size,5,none⟩=some (.slice KL0 rl0.ks.len cl0):=by rw [BX0_3.out.now.cell];rfl
 have qBX0_6:World.cell? w3 ⟨w.heap.size,6,none⟩=some (.int .i64 rr0.k):=by rw [BX0_3.out.now.cell];rfl
 have qBX0_7:World.cell? w3 ⟨w.heap.size,7,none⟩=some (.int .i64 rr0.n):=by rw [BX0_3.out.now.cell];rfl
 have qBX0_8:World.cell? w3 ⟨w.heap.size,8,none⟩=some (.int .i64 rr0.p):=by rw [BX0_3.out.now.cell];rfl
 have qBX0_9:World.cell? w3 ⟨w.heap.size,9,none⟩=some (.int .i64 rr0.c):=by rw [BX0_3.out.now.cell];rfl
 have qBX0_10:World.cell? w3 ⟨w.heap.size,10,none⟩=some (.slice KR0 rr0.ks.len cr0):=by rw [BX0_3.out.now.cell];rfl
 go_wp2_with fail
 refine (toRuleR ru0 rl0 rr0 KL0 KR0 cl0 cr0 w.heap.size _ ⟨S0.out.1.below HB3.out,S0.out.2.below HB3.out⟩ HB3.out.size Z0.out).mono ?_;rintro e w4 ⟨ga4,gb4,g4,hg4,rfl,hX4,hb4⟩
 clear qBX0_0 qBX0_1 qBX0_2 qBX0_3 qBX0_4 qBX0_5 qBX0_6 qBX0_7 qBX0_8 qBX0_9 qBX0_10
 have HB4:=hid (bnext HB3.out hb4)
 have BX0_4:=hid (BX0_3.out.below hb4);clear BX0_3
 have R1_4:=hid (R1_3.out.below hb4);clear R1_3
 have HS4:=hid hb4.size
 clear hb4
 have HG4:=hid hg4;clear hg4
 have X0_4:=hid hX4;clear hX4
 have HQ4:=hid X0_4.out.le
 have hb5:Below w4.heap.size w4 (w4.alloc (.cells #[.int .i64 ru0,.int .i64 rl0.k,.int .i64 rl0.n,.int .i64 rl0.p,.int .i64 rl0.c,.slice (some ⟨ga4,0,none⟩) rl0.ks.len rl0.ks.len,.int .i64 rr0.k,.int .i64 rr0.n,.int .i64 rr0.p,.int .i64 rr0.c,.slice (some ⟨gb4,0,none⟩) rr0.ks.len rr0.ks.len] 35)):=by go_grown
 have qBX0_0:World.cell? w4 ⟨w.heap.size,0,none⟩=some (.int .i64 ru0):=by rw [BX0_4.out.now.cell];rfl
 have qBX0_1:World.cell? w4 ⟨w.heap.size,1,none⟩=some (.int .i64 rl0.k):=by rw [BX0_4.out.now.cell];rfl
 have qBX0_2:World.cell? w4 ⟨w.heap.size,2,none⟩=some (.int .i64 rl0.n):=by rw [BX0_4.out.now.cell];rfl
 have qBX0_3:World.cell? w4 ⟨w.heap.size,3,none⟩=some (.int .i64 rl0.p):=by rw [BX0_4.out.now.cell];rfl
 have qBX0_4:World.cell? w4 ⟨w.heap.size,4,none⟩=some (.int .i64 rl0.c):=by rw [BX0_4.out.now.cell];rfl
 have qBX0_5:World.cell? w4 ⟨w.heap.size,5,none⟩=some (.slice KL0 rl0.ks.len cl0):=by rw [BX0_4.out.now.cell];rfl
 have qBX0_6:World.cell? w4 ⟨w.heap.size,6,none⟩=some (.int .i64 rr0.k):=by rw [BX0_4.out.now.cell];rfl
 have qBX0_7:World.cell? w4 ⟨w.heap.size,7,none⟩=some (.int .i64 rr0.n):=by rw [BX0_4.out.now.cell];rfl
 have qBX0_8:World.cell? w4 ⟨w.heap.size,8,none⟩=some (.int .i64 rr0.p):=by rw [BX0_4.out.now.cell];rfl
 have qBX0_9:World.cell? w4 ⟨w.heap.size,9,none⟩=some (.int .i64 rr0.c):=by rw [BX0_4.out.now.cell];rfl
 have qBX0_10:World.cell? w4 ⟨w.heap.size,10,none⟩=some (.slice KR0 rr0.ks.len cr0):=by rw [BX0_4.out.now.cell];rfl
 go_wp2_with fail
 clear qBX0_0 qBX0_1 qBX0_2 qBX0_3 qBX0_4 qBX0_5 qBX0_6 qBX0_7 qBX0_8 qBX0_9 qBX0_10
 have BC5:Hid (Cells (w4.alloc (.cells #[.int .i64 ru0,.int .i64 rl0.k,.int .i64 rl0.n,.int .i64 rl0.p,.int .i64 rl0.c,.slice (some ⟨ga4,0,none⟩) rl0.ks.len rl0.ks.len,.int .i64 rr0.k,.int .i64 rr0.n,.int .i64 rr0.p,.int .i64 rr0.c,.slice (some ⟨gb4,0,none⟩) rr0.ks.len rr0.ks.len] 35)) w4.heap.size 35 [.int .i64 ru0,.int .i64 rl0.k,.int .i64 rl0.n,.int .i64 rl0.p,.int .i64 rl0.c,.slice (some ⟨ga4,0,none⟩) rl0.ks.len rl0.ks.len,.int .i64 rr0.k,.int .i64 rr0.n,.int .i64 rr0.p,.int .i64 rr0.c,.slice (some ⟨gb4,0,none⟩) rr0.ks.len rr0.ks.len]):=Cells.new w4 35 [.int .i64 ru0,.int .i64 rl0.k,.int .i64 rl0.n,.int .i64 rl0.p,.int .i64 rl0.c,.slice (some ⟨ga4,0,none⟩) rl0.ks.len rl0.ks.len,.int .i64 rr0.k,.int .i64 rr0.n,.int .i64 rr0.p,.int .i64 rr0.c,.slice (some ⟨gb4,0,none⟩) rr0.ks.len rr0.ks.len]
 change Calls _ _ _ (w4.alloc (.cells #[.int .i64 ru0,.int .i64 rl0.k,.int .i64 rl0.n,.int .i64 rl0.p,.int .i64 rl0.c,.slice (some ⟨ga4,0,none⟩) rl0.ks.len rl0.ks.len,.int .i64 rr0.k,.int .i64 rr0.n,.int .i64 rr0.p,.int .i64 rr0.c,.slice (some ⟨gb4,0,none⟩) rr0.ks.len rr0.ks.len] 35)) _
 generalize (w4.alloc (.cells #[.int .i64 ru0,.int .i64 rl0.k,.int .i64 rl0.n,.int .i64 rl0.p,.int .i64 rl0.c,.slice (some ⟨ga4,0,none⟩) rl0.ks.len rl0.ks.len,.int .i64 rr0.k,.int .i64 rr0.n,.int .i64 rr0.p,.int .i64 rr0.c,.slice (some ⟨gb4,0,none⟩) rr0.ks.len rr0.ks.len] 35))=w5 at *
 have HB5:=hid (bnext HB4.out hb5)
 have BX0_5:=hid (BX0_4.out.below hb5);clear BX0_4
 have R1_5:=hid (R1_4.out.below hb5);clear R1_4
 have X0_5:=hid (X0_4.out.below hb5);clear X0_4
 have HS5:=hid hb5.size
 clear hb5
 have VX0_5:Hid (Reg w5 w4.heap.size (w4.heap.size+1) (fun w'=>Cells w' w4.heap.size 35 [.int .i64 ru0,.int .i64 rl0.k,.int .i64 rl0.n,.int .i64 rl0.p,.int .i64 rl0.c,.slice (some ⟨ga4,0,none⟩) rl0.ks.len rl0.ks.len,.int .i64 rr0.k,.int .i64 rr0.n,.int .i64 rr0.p,.int .i64 rr0.c,.slice (some ⟨gb4,0,none⟩) rr0.ks.len rr0.ks.len])):=regBox BC5.out
 clear BC5
 have HQ5:=hid VX0_5.out.size
 have qBX0_0:World.cell? w5 ⟨w.heap.size,0,none⟩=some (.int .i64 ru0):=by rw [BX0_5.out.now.cell];rfl
 have qBX0_1:World.cell? w5 ⟨w.heap.size,1,none⟩=some (.int .i64 rl0.k):=by rw [BX0_5.out.now.cell];rfl
 have qBX0_2:World.cell? w5 ⟨w.heap.size,2,none⟩=some (.int .i64 rl0.n):=by rw [BX0_5.out.now.cell];rfl
 have qBX0_3:World.cell? w5 ⟨w.heap.size,3,none⟩=some (.int .i64 rl0.p):=by rw [BX0_5.out.now.cell];rfl
 have qBX0_4:World.cell? w5 ⟨w.heap.size,4,none⟩=some (.int .i64 rl0.c):=by rw [BX0_5.out.now.cell];rfl
 have qBX0_5:World.cell? w5 ⟨w.heap.size,5,none⟩=some (.slice KL0 rl0.ks.len cl0):=by rw [BX0_5.out.now.cell];rfl
 have qBX0_6:World.cell? w5 ⟨w.heap.size,6,none⟩=some (.int .i64 rr0.k):=by rw [BX0_5.out.now.cell];rfl
 have qBX0_7:World.cell? w5 ⟨w.heap.size,7,none⟩=some (.int .i64 rr0.n):=by rw [BX0_5.out.now.cell];rfl
 have qBX0_8:World.cell? w5 ⟨w.heap.size,8,none⟩=some (.int .i64 rr0.p):=by rw [BX0_5.out.now.cell];rfl
 have qBX0_9:World.cell? w5 ⟨w.heap.size,9,none⟩=some (.int .i64 rr0.c):=by rw [BX0_5.out.now.cell];rfl
 have qBX0_10:World.cell? w5 ⟨w.heap.size,10,none⟩=some (.slice KR0 rr0.ks.len cr0):=by rw [BX0_5.out.now.cell];rfl
 have qVX0_0:World.cell? w5 ⟨w4.heap.size,0,none⟩=some (.int .i64 ru0):=by rw [VX0_5.out.now.cell];rfl
 have qVX0_1:World.cell? w5 ⟨w4.heap.size,1,none⟩=some (.int .i64 rl0.k):=by rw [VX0_5.out.now.cell];rfl
 have qVX0_2:World.cell? w5 ⟨w4.heap.size,2,none⟩=some (.int .i64 rl0.n):=by rw [VX0_5.out.now.cell];rfl
 have qVX0_3:World.cell? w5 ⟨w4.heap.size,3,none⟩=some (.int .i64 rl0.p):=by rw [VX0_5.out.now.cell];rfl
 have qVX0_4:World.cell? w5 ⟨w4.heap.size,4,none⟩=some (.int .i64 rl0.c):=by rw [VX0_5.out.now.cell];rfl
 have qVX0_5:World.cell? w5 ⟨w4.heap.size,5,none⟩=some (.slice (some ⟨ga4,0,none⟩) rl0.ks.len rl0.ks.len):=by rw [VX0_5.out.now.cell];rfl
 have qVX0_6:World.cell? w5 ⟨w4.heap.size,6,none⟩=some (.int .i64 rr0.k):=by rw [VX0_5.out.now.cell];rfl
 have qVX0_7:World.cell? w5 ⟨w4.heap.size,7,none⟩=some (.int .i64 rr0.n):=by rw [VX0_5.out.now.cell];rfl
 have qVX0_8:World.cell? w5 ⟨w4.heap.size,8,none⟩=some (.int .i64 rr0.p):=by rw [VX0_5.out.now.cell];rfl
 have qVX0_9:World.cell? w5 ⟨w4.heap.size,9,none⟩=some (.int .i64 rr0.c):=by rw [VX0_5.out.now.cell];rfl
 have qVX0_10:World.cell? w5 ⟨w4.heap.size,10,none⟩=some (.slice (some ⟨gb4,0,none⟩) rr0.ks.len rr0.ks.len):=by rw [VX0_5.out.now.cell];rfl
 skip
 refine (checkI' ru0 rl0 rr0 _ (regRule X0_5.out Z0.out)).mono ?_
 rw [←V0.out,←V1.out,←V2.out]
 rintro e w6 ⟨hb6,AG1,cG1,rfl,hR6⟩
 clear qBX0_0 qBX0_1 qBX0_2 qBX0_3 qBX0_4 qBX0_5 qBX0_6 qBX0_7 qBX0_8 qBX0_9 qBX0_10 qVX0_0 qVX0_1 qVX0_2 qVX0_3 qVX0_4 qVX0_5 qVX0_6 qVX0_7 qVX0_8 qVX0_9 qVX0_10
 have HB6:=hid (bnext HB5.out hb6)
 have BX0_6:=hid (BX0_5.out.below hb6);clear BX0_5
 have R1_6:=hid (R1_5.out.below hb6);clear R1_5
 have X0_6:=hid (X0_5.out.below hb6);clear X0_5
 have VX0_6:=hid (VX0_5.out.below hb6);clear VX0_5
 have HS6:=hid hb6.size
 clear hb6
 have G1_6:=hid hR6;clear hR6
 have qBX0_0:World.cell? w6 ⟨w.heap.size,0,none⟩=some (.int .i64 ru0):=by rw [BX0_6.out.now.cell];rfl
 have qBX0_1:World.cell? w6 ⟨w.heap.size,1,none⟩=some (.int .i64 rl0.k):=by rw [BX0_6.out.now.cell];rfl
 have qBX0_2:World.cell? w6 ⟨w.heap.size,2,none⟩=some (.int .i64 rl0.n):=by rw [BX0_6.out.now.cell];rfl
 have qBX0_3:World.cell? w6 ⟨w.heap.size,3,none⟩=some (.int .i64 rl0.p):=by rw [BX0_6.out.now.cell];rfl
 have qBX0_4:World.cell? w6 ⟨w.heap.size,4,none⟩=some (.int .i64 rl0.c):=by rw [BX0_6.out.now.cell];rfl
 have qBX0_5:World.cell? w6 ⟨w.heap.size,5,none⟩=some (.slice KL0 rl0.ks.len cl0):=by rw [BX0_6.out.now.cell];rfl
 have qBX0_6:World.cell? w6 ⟨w.heap.size,6,none⟩=some (.int .i64 rr0.k):=by rw [BX0_6.out.now.cell];rfl
 have qBX0_7:World.cell? w6 ⟨w.heap.size,7,none⟩=some (.int .i64 rr0.n):=by rw [BX0_6.out.now.cell];rfl
 have qBX0_8:World.cell? w6 ⟨w.heap.size,8,none⟩=some (.int .i64 rr0.p):=by rw [BX0_6.out.now.cell];rfl
 have qBX0_9:World.cell? w6 ⟨w.heap.size,9,none⟩=some (.int .i64 rr0.c):=by rw [BX0_6.out.now.cell];rfl
 have qBX0_10:World.cell? w6 ⟨w.heap.size,10,none⟩=some (.slice KR0 rr0.ks.len cr0):=by rw [BX0_6.out.now.cell];rfl
 have qVX0_0:World.cell? w6 ⟨w4.heap.size,0,none⟩=some (.int .i64 ru0):=by rw [VX0_6.out.now.cell];rfl
 have qVX0_1:World.cell? w6 ⟨w4.heap.size,1,none⟩=some (.int .i64 rl0.k):=by rw [VX0_6.out.now.cell];rfl
 have qVX0_2:World.cell? w6 ⟨w4.heap.size,2,none⟩=some (.int .i64 rl0.n):=by rw [VX0_6.out.now.cell];rfl
 have qVX0_3:World.cell? w6 ⟨w4.heap.size,3,none⟩=some (.int .i64 rl0.p):=by rw [VX0_6.out.now.cell];rfl
 have qVX0_4:World.cell? w6 ⟨w4.heap.size,4,none⟩=some (.int .i64 rl0.c):=by rw [VX0_6.out.now.cell];rfl
 have qVX0_5:World.cell? w6 ⟨w4.heap.size,5,none⟩=some (.slice (some ⟨ga4,0,none⟩) rl0.ks.len rl0.ks.len):=by rw [VX0_6.out.now.cell];rfl
 have qVX0_6:World.cell? w6 ⟨w4.heap.size,6,none⟩=some (.int .i64 rr0.k):=by rw [VX0_6.out.now.cell];rfl
 have qVX0_7:World.cell? w6 ⟨w4.heap.size,7,none⟩=some (.int .i64 rr0.n):=by rw [VX0_6.out.now.cell];rfl
 have qVX0_8:World.cell? w6 ⟨w4.heap.size,8,none⟩=some (.int .i64 rr0.p):=by rw [VX0_6.out.now.cell];rfl
 have qVX0_9:World.cell? w6 ⟨w4.heap.size,9,none⟩=some (.int .i64 rr0.c):=by rw [VX0_6.out.now.cell];rfl
 have qVX0_10:World.cell? w6 ⟨w4.heap.size,10,none⟩=some (.slice (some ⟨gb4,0,none⟩) rr0.ks.len rr0.ks.len):=by rw [VX0_6.out.now.cell];rfl
 go_wp2_with fail
 refine (eqR cG1 cR1 (regInts G1_6.out) (regInts R1_6.out) (by omega)).mono ?_;rintro e w7 ⟨rfl,hb7⟩
 clear qBX0_0 qBX0_1 qBX0_2 qBX0_3 qBX0_4 qBX0_5 qBX0_6 qBX0_7 qBX0_8 qBX0_9 qBX0_10 qVX0_0 qVX0_1 qVX0_2 qVX0_3 qVX0_4 qVX0_5 qVX0_6 qVX0_7 qVX0_8 qVX0_9 qVX0_10
 have HB7:=hid (bnext HB6.out hb7)
 have BX0_7:=hid (BX0_6.out.below hb7);clear BX0_6
 have R1_7:=hid (R1_6.out.below hb7);clear R1_6
 have X0_7:=hid (X0_6.out.below hb7);clear X0_6
 have VX0_7:=hid (VX0_6.out.below hb7);clear VX0_6
 have G1_7:=hid (G1_6.out.below hb7);clear G1_6
 have HS7:=hid hb7.size
 clear hb7
 have qBX0_0:World.cell? w7 ⟨w.heap.size,0,none⟩=some (.int .i64 ru0):=by rw [BX0_7.out.now.cell];rfl
 have qBX0_1:World.cell? w7 ⟨w.heap.size,1,none⟩=some (.int .i64 rl0.k):=by rw [BX0_7.out.now.cell];rfl
 have qBX0_2:World.cell? w7 ⟨w.heap.size,2,none⟩=some (.int .i64 rl0.n):=by rw [BX0_7.out.now.cell];rfl
 have qBX0_3:World.cell? w7 ⟨w.heap.size,3,none⟩=some (.int .i64 rl0.p):=by rw [BX0_7.out.now.cell];rfl
 have qBX0_4:World.cell? w7 ⟨w.heap.size,4,none⟩=some (.int .i64 rl0.c):=by rw [BX0_7.out.now.cell];rfl
 have qBX0_5:World.cell? w7 ⟨w.heap.size,5,none⟩=some (.slice KL0 rl0.ks.len cl0):=by rw [BX0_7.out.now.cell];rfl
 have qBX0_6:World.cell? w7 ⟨w.heap.size,6,none⟩=some (.int .i64 rr0.k):=by rw [BX0_7.out.now.cell];rfl
 have qBX0_7:World.cell? w7 ⟨w.heap.size,7,none⟩=some (.int .i64 rr0.n):=by rw [BX0_7.out.now.cell];rfl
 have qBX0_8:World.cell? w7 ⟨w.heap.size,8,none⟩=some (.int .i64 rr0.p):=by rw [BX0_7.out.now.cell];rfl
 have qBX0_9:World.cell? w7 ⟨w.heap.size,9,none⟩=some (.int .i64 rr0.c):=by rw [BX0_7.out.now.cell];rfl
 have qBX0_10:World.cell? w7 ⟨w.heap.size,10,none⟩=some (.slice KR0 rr0.ks.len cr0):=by rw [BX0_7.out.now.cell];rfl
 have qVX0_0:World.cell? w7 ⟨w4.heap.size,0,none⟩=some (.int .i64 ru0):=by rw [VX0_7.out.now.cell];rfl
 have qVX0_1:World.cell? w7 ⟨w4.heap.size,1,none⟩=some (.int .i64 rl0.k):=by rw [VX0_7.out.now.cell];rfl
 have qVX0_2:World.cell? w7 ⟨w4.heap.size,2,none⟩=some (.int .i64 rl0.n):=by rw [VX0_7.out.now.cell];rfl
 have qVX0_3:World.cell? w7 ⟨w4.heap.size,3,none⟩=some (.int .i64 rl0.p):=by rw [VX0_7.out.now.cell];rfl
 have qVX0_4:World.cell? w7 ⟨w4.heap.size,4,none⟩=some (.int .i64 rl0.c):=by rw [VX0_7.out.now.cell];rfl
 have qVX0_5:World.cell? w7 ⟨w4.heap.size,5,none⟩=some (.slice (some ⟨ga4,0,none⟩) rl0.ks.len rl0.ks.len):=by rw [VX0_7.out.now.cell];rfl
 have qVX0_6:World.cell? w7 ⟨w4.heap.size,6,none⟩=some (.int .i64 rr0.k):=by rw [VX0_7.out.now.cell];rfl
 have qVX0_7:World.cell? w7 ⟨w4.heap.size,7,none⟩=some (.int .i64 rr0.n):=by rw [VX0_7.out.now.cell];rfl
 have qVX0_8:World.cell? w7 ⟨w4.heap.size,8,none⟩=some (.int .i64 rr0.p):=by rw [VX0_7.out.now.cell];rfl
 have qVX0_9:World.cell? w7 ⟨w4.heap.size,9,none⟩=some (.int .i64 rr0.c):=by rw [VX0_7.out.now.cell];rfl
 have qVX0_10:World.cell? w7 ⟨w4.heap.size,10,none⟩=some (.slice (some ⟨gb4,0,none⟩) rr0.ks.len rr0.ks.len):=by rw [VX0_7.out.now.cell];rfl
 go_wp2_with fail
 have KT8:Hid (∀ wx,Below w7.heap.size w7 wx→Calls Tryz.prog 12 #[ruV ru0 rl0 KL0 cl0 rr0 KR0 cr0] wx fun e w'=>∃ g1 g2 lo,wx.heap.size≤lo∧e=.returned (ruV ru0 rl0 (some ⟨g1,0,none⟩) rl0.ks.len rr0 (some ⟨g2,0,none⟩) rr0.ks.len)∧Reg w' lo w'.heap.size (RulR lo w'.heap.size rl0 rr0 g1 g2)∧Below wx.heap.size wx w'):=fun wx hx=>toRuleR ru0 rl0 rr0 KL0 KR0 cl0 cr0 w.heap.size wx ⟨S0.out.1.below (bnext HB7.out hx),S0.out.2.below (bnext HB7.out hx)⟩ (bnext HB7.out hx).size Z0.out
 have KS8:=hid (And.intro qVX0_0 (And.intro qVX0_1 (And.intro qVX0_2 (And.intro qVX0_3 (And.intro qVX0_4 (And.intro qVX0_5 (And.intro qVX0_6 (And.intro qVX0_7 (And.intro qVX0_8 (And.intro qVX0_9 (And.intro qVX0_10 (And.intro qBX0_0 (And.intro qBX0_1 (And.intro qBX0_2 (And.intro qBX0_3 (And.intro qBX0_4 (And.intro qBX0_5 (And.intro qBX0_6 (And.intro qBX0_7 (And.intro qBX0_8 (And.intro qBX0_9 qBX0_10)))))))))))))))))))))
 go_region_held3 (fun wx=>wx.cell? ⟨w4.heap.size,0,none⟩=some (.int .i64 ru0)∧wx.cell? ⟨w4.heap.size,1,none⟩=some (.int .i64 rl0.k)∧wx.cell? ⟨w4.heap.size,2,none⟩=some (.int .i64 rl0.n)∧wx.cell? ⟨w4.heap.size,3,none⟩=some (.int .i64 rl0.p)∧wx.cell? ⟨w4.heap.size,4,none⟩=some (.int .i64 rl0.c)∧wx.cell? ⟨w4.heap.size,5,none⟩=some (.slice (some ⟨ga4,0,none⟩) rl0.ks.len rl0.ks.len)∧wx.cell? ⟨w4.heap.size,6,none⟩=some (.int .i64 rr0.k)∧wx.cell? ⟨w4.heap.size,7,none⟩=some (.int .i64 rr0.n)∧wx.cell? ⟨w4.heap.size,8,none⟩=some (.int .i64 rr0.p)∧wx.cell? ⟨w4.heap.size,9,none⟩=some (.int .i64 rr0.c)∧wx.cell? ⟨w4.heap.size,10,none⟩=some (.slice (some ⟨gb4,0,none⟩) rr0.ks.len rr0.ks.len)∧wx.cell? ⟨w.heap.size,0,none⟩=some (.int .i64 ru0)∧wx.cell? ⟨w.heap.size,1,none⟩=some (.int .i64 rl0.k)∧wx.cell? ⟨w.heap.size,2,none⟩=some (.int .i64 rl0.n)∧wx.cell? ⟨w.heap.size,3,none⟩=some (.int .i64 rl0.p)∧wx.cell? ⟨w.heap.size,4,none⟩=some (.int .i64 rl0.c)∧wx.cell? ⟨w.heap.size,5,none⟩=some (.slice KL0 rl0.ks.len cl0)∧wx.cell? ⟨w.heap.size,6,none⟩=some (.int .i64 rr0.k)∧wx.cell? ⟨w.heap.size,7,none⟩=some (.int .i64 rr0.n)∧wx.cell? ⟨w.heap.size,8,none⟩=some (.int .i64 rr0.p)∧wx.cell? ⟨w.heap.size,9,none⟩=some (.int .i64 rr0.c)∧wx.cell? ⟨w.heap.size,10,none⟩=some (.slice KR0 rr0.ks.len cr0)) (first | exact KS8.out | exact KS8.out | go_keep | exact keep22 KS8.out hb8 | exact keep22 KS8.out (hb8.trans (hb9.mono hb8.size)))
  (first
   | (go_at_call 15;have _tk:=hX8;(with_reducible refine (eqRuleR ru0 rl0 rr0 (X0_7.out.below hb8) hX8 Z0.out).mono ?_);rintro e w9 ⟨rfl,hb9⟩)
   | (go_at_call 12;refine (KT8.out _ (by first | exact (Below.refl _ _).drew | exact below_drewN' (Below.refl _ _) _ | exact Below.refl _ _)).mono ?_;rintro e w8 ⟨ga8,gb8,g8,hg8,rfl,hX8,hb8'⟩;have hb8:Below w7.heap.size w7 w8:=by first | exact bdrew hb8' | exact bdrewN hb8' | exact hb8'))
 clear hX8 hg8 hb8' KS8 KT8
 clear qBX0_0 qBX0_1 qBX0_2 qBX0_3 qBX0_4 qBX0_5 qBX0_6 qBX0_7 qBX0_8 qBX0_9 qBX0_10 qVX0_0 qVX0_1 qVX0_2 qVX0_3 qVX0_4 qVX0_5 qVX0_6 qVX0_7 qVX0_8 qVX0_9 qVX0_10
 have HB8:=hid (bnext HB7.out hb8)
 have BX0_8:=hid (BX0_7.out.below hb8);clear BX0_7
 have R1_8:=hid (R1_7.out.below hb8);clear R1_7
 have X0_8:=hid (X0_7.out.below hb8);clear X0_7
 have VX0_8:=hid (VX0_7.out.below hb8);clear VX0_7
 have G1_8:=hid (G1_7.out.below hb8);clear G1_7
 have HS8:=hid hb8.size
 clear hb8
 have HB9:=hid (bnext HB8.out hb9)
 have BX0_9:=hid (BX0_8.out.below hb9);clear BX0_8
 have R1_9:=hid (R1_8.out.below hb9);clear R1_8
 have X0_9:=hid (X0_8.out.below hb9);clear X0_8
 have VX0_9:=hid (VX0_8.out.below hb9);clear VX0_8
 have G1_9:=hid (G1_8.out.below hb9);clear G1_8
 have HS9:=hid hb9.size
 clear hb9
 have qBX0_0:World.cell? w9 ⟨w.heap.size,0,none⟩=some (.int .i64 ru0):=by rw [BX0_9.out.now.cell];rfl
 have qBX0_1:World.cell? w9 ⟨w.heap.size,1,none⟩=some (.int .i64 rl0.k):=by rw [BX0_9.out.now.cell];rfl
 have qBX0_2:World.cell? w9 ⟨w.heap.size,2,none⟩=some (.int .i64 rl0.n):=by rw [BX0_9.out.now.cell];rfl
 have qBX0_3:World.cell? w9 ⟨w.heap.size,3,none⟩=some (.int .i64 rl0.p):=by rw [BX0_9.out.now.cell];rfl
 have qBX0_4:World.cell? w9 ⟨w.heap.size,4,none⟩=some (.int .i64 rl0.c):=by rw [BX0_9.out.now.cell];rfl
 have qBX0_5:World.cell? w9 ⟨w.heap.size,5,none⟩=some (.slice KL0 rl0.ks.len cl0):=by rw [BX0_9.out.now.cell];rfl
 have qBX0_6:World.cell? w9 ⟨w.heap.size,6,none⟩=some (.int .i64 rr0.k):=by rw [BX0_9.out.now.cell];rfl
 have qBX0_7:World.cell? w9 ⟨w.heap.size,7,none⟩=some (.int .i64 rr0.n):=by rw [BX0_9.out.now.cell];rfl
 have qBX0_8:World.cell? w9 ⟨w.heap.size,8,none⟩=some (.int .i64 rr0.p):=by rw [BX0_9.out.now.cell];rfl
 have qBX0_9:World.cell? w9 ⟨w.heap.size,9,none⟩=some (.int .i64 rr0.c):=by rw [BX0_9.out.now.cell];rfl
 have qBX0_10:World.cell? w9 ⟨w.heap.size,10,none⟩=some (.slice KR0 rr0.ks.len cr0):=by rw [BX0_9.out.now.cell];rfl
 have qVX0_0:World.cell? w9 ⟨w4.heap.size,0,none⟩=some (.int .i64 ru0):=by rw [VX0_9.out.now.cell];rfl
 have qVX0_1:World.cell? w9 ⟨w4.heap.size,1,none⟩=some (.int .i64 rl0.k):=by rw [VX0_9.out.now.cell];rfl
 have qVX0_2:World.cell? w9 ⟨w4.heap.size,2,none⟩=some (.int .i64 rl0.n):=by rw [VX0_9.out.now.cell];rfl
 have qVX0_3:World.cell? w9 ⟨w4.heap.size,3,none⟩=some (.int .i64 rl0.p):=by rw [VX0_9.out.now.cell];rfl
 have qVX0_4:World.cell? w9 ⟨w4.heap.size,4,none⟩=some (.int .i64 rl0.c):=by rw [VX0_9.out.now.cell];rfl
 have qVX0_5:World.cell? w9 ⟨w4.heap.size,5,none⟩=some (.slice (some ⟨ga4,0,none⟩) rl0.ks.len rl0.ks.len):=by rw [VX0_9.out.now.cell];rfl
 have qVX0_6:World.cell? w9 ⟨w4.heap.size,6,none⟩=some (.int .i64 rr0.k):=by rw [VX0_9.out.now.cell];rfl
 have qVX0_7:World.cell? w9 ⟨w4.heap.size,7,none⟩=some (.int .i64 rr0.n):=by rw [VX0_9.out.now.cell];rfl
 have qVX0_8:World.cell? w9 ⟨w4.heap.size,8,none⟩=some (.int .i64 rr0.p):=by rw [VX0_9.out.now.cell];rfl
 have qVX0_9:World.cell? w9 ⟨w4.heap.size,9,none⟩=some (.int .i64 rr0.c):=by rw [VX0_9.out.now.cell];rfl
 have qVX0_10:World.cell? w9 ⟨w4.heap.size,10,none⟩=some (.slice (some ⟨gb4,0,none⟩) rr0.ks.len rr0.ks.len):=by rw [VX0_9.out.now.cell];rfl
 go_wp2_with fail
 refine (markRuleR ru0 rl0 rr0 X0_9.out Z0.out (by omega) (by omega)).mono ?_;rintro e w10 ⟨k10,rfl,k010,k110,hO10⟩
 clear X0_9
 have k210:0≤k10:=by omega
 have k310:k10≤1+4194304:=by have:=Z0.out;omega
 clear k010 k110
 clear qBX0_0 qBX0_1 qBX0_2 qBX0_3 qBX0_4 qBX0_5 qBX0_6 qBX0_7 qBX0_8 qBX0_9 qBX0_10 qVX0_0 qVX0_1 qVX0_2 qVX0_3 qVX0_4 qVX0_5 qVX0_6 qVX0_7 qVX0_8 qVX0_9 qVX0_10
 have hz10:w.heap.size≤g4∧g4≤w4.heap.size∧w4.heap.size≤w9.heap.size:=by have:=HS0.out;have:=HQB0.out;have:=HS1.out;have:=HS2.out;have:=HG2.out;have:=HQ2.out;have:=HS3.out;have:=HS4.out;have:=HG4.out;have:=HQ4.out;have:=HS5.out;have:=HQ5.out;have:=HS6.out;have:=HS7.out;have:=HS8.out;have:=HS9.out;omega
 have HB10:=hid (belowRegion HB9.out hO10 hz10.1)
 have BX0_10:=hid (BX0_9.out.apart hO10 (by have:=HS0.out;have:=HQB0.out;have:=HS1.out;have:=HS2.out;have:=HG2.out;have:=HQ2.out;have:=HS3.out;have:=HS4.out;have:=HG4.out;have:=HQ4.out;have:=HS5.out;have:=HQ5.out;have:=HS6.out;have:=HS7.out;have:=HS8.out;have:=HS9.out;omega));clear BX0_9
 have R1_10:=hid (R1_9.out.apart hO10 (by have:=HS0.out;have:=HQB0.out;have:=HS1.out;have:=HS2.out;have:=HG2.out;have:=HQ2.out;have:=HS3.out;have:=HS4.out;have:=HG4.out;have:=HQ4.out;have:=HS5.out;have:=HQ5.out;have:=HS6.out;have:=HS7.out;have:=HS8.out;have:=HS9.out;omega));clear R1_9
 have VX0_10:=hid (VX0_9.out.apart hO10 (by have:=HS0.out;have:=HQB0.out;have:=HS1.out;have:=HS2.out;have:=HG2.out;have:=HQ2.out;have:=HS3.out;have:=HS4.out;have:=HG4.out;have:=HQ4.out;have:=HS5.out;have:=HQ5.out;have:=HS6.out;have:=HS7.out;have:=HS8.out;have:=HS9.out;omega));clear VX0_9
 have G1_10:=hid (G1_9.out.apart hO10 (by have:=HS0.out;have:=HQB0.out;have:=HS1.out;have:=HS2.out;have:=HG2.out;have:=HQ2.out;have:=HS3.out;have:=HS4.out;have:=HG4.out;have:=HQ4.out;have:=HS5.out;have:=HQ5.out;have:=HS6.out;have:=HS7.out;have:=HS8.out;have:=HS9.out;omega));clear G1_9
 have HS10:=hid hO10.size
 clear hO10 hz10
 have hkk:decide (k10<0)=false:=by simpa using k210
 have qBX0_0:World.cell? w10 ⟨w.heap.size,0,none⟩=some (.int .i64 ru0):=by rw [BX0_10.out.now.cell];rfl
 have qBX0_1:World.cell? w10 ⟨w.heap.size,1,none⟩=some (.int .i64 rl0.k):=by rw [BX0_10.out.now.cell];rfl
 have qBX0_2:World.cell? w10 ⟨w.heap.size,2,none⟩=some (.int .i64 rl0.n):=by rw [BX0_10.out.now.cell];rfl
 have qBX0_3:World.cell? w10 ⟨w.heap.size,3,none⟩=some (.int .i64 rl0.p):=by rw [BX0_10.out.now.cell];rfl
 have qBX0_4:World.cell? w10 ⟨w.heap.size,4,none⟩=some (.int .i64 rl0.c):=by rw [BX0_10.out.now.cell];rfl
 have qBX0_5:World.cell? w10 ⟨w.heap.size,5,none⟩=some (.slice KL0 rl0.ks.len cl0):=by rw [BX0_10.out.now.cell];rfl
 have qBX0_6:World.cell? w10 ⟨w.heap.size,6,none⟩=some (.int .i64 rr0.k):=by rw [BX0_10.out.now.cell];rfl
 have qBX0_7:World.cell? w10 ⟨w.heap.size,7,none⟩=some (.int .i64 rr0.n):=by rw [BX0_10.out.now.cell];rfl
 have qBX0_8:World.cell? w10 ⟨w.heap.size,8,none⟩=some (.int .i64 rr0.p):=by rw [BX0_10.out.now.cell];rfl
 have qBX0_9:World.cell? w10 ⟨w.heap.size,9,none⟩=some (.int .i64 rr0.c):=by rw [BX0_10.out.now.cell];rfl
 have qBX0_10:World.cell? w10 ⟨w.heap.size,10,none⟩=some (.slice KR0 rr0.ks.len cr0):=by rw [BX0_10.out.now.cell];rfl
 have qVX0_0:World.cell? w10 ⟨w4.heap.size,0,none⟩=some (.int .i64 ru0):=by rw [VX0_10.out.now.cell];rfl
 have qVX0_1:World.cell? w10 ⟨w4.heap.size,1,none⟩=some (.int .i64 rl0.k):=by rw [VX0_10.out.now.cell];rfl
 have qVX0_2:World.cell? w10 ⟨w4.heap.size,2,none⟩=some (.int .i64 rl0.n):=by rw [VX0_10.out.now.cell];rfl
 have qVX0_3:World.cell? w10 ⟨w4.heap.size,3,none⟩=some (.int .i64 rl0.p):=by rw [VX0_10.out.now.cell];rfl
 have qVX0_4:World.cell? w10 ⟨w4.heap.size,4,none⟩=some (.int .i64 rl0.c):=by rw [VX0_10.out.now.cell];rfl
 have qVX0_5:World.cell? w10 ⟨w4.heap.size,5,none⟩=some (.slice (some ⟨ga4,0,none⟩) rl0.ks.len rl0.ks.len):=by rw [VX0_10.out.now.cell];rfl
 have qVX0_6:World.cell? w10 ⟨w4.heap.size,6,none⟩=some (.int .i64 rr0.k):=by rw [VX0_10.out.now.cell];rfl
 have qVX0_7:World.cell? w10 ⟨w4.heap.size,7,none⟩=some (.int .i64 rr0.n):=by rw [VX0_10.out.now.cell];rfl
 have qVX0_8:World.cell? w10 ⟨w4.heap.size,8,none⟩=some (.int .i64 rr0.p):=by rw [VX0_10.out.now.cell];rfl
 have qVX0_9:World.cell? w10 ⟨w4.heap.size,9,none⟩=some (.int .i64 rr0.c):=by rw [VX0_10.out.now.cell];rfl
 have qVX0_10:World.cell? w10 ⟨w4.heap.size,10,none⟩=some (.slice (some ⟨gb4,0,none⟩) rr0.ks.len rr0.ks.len):=by rw [VX0_10.out.now.cell];rfl
 go_wp2_with fail
 refine (eqR cG1 cR1 (regInts G1_10.out) (regInts R1_10.out) (by omega)).mono ?_;rintro e w11 ⟨rfl,hb11⟩
 clear qBX0_0 qBX0_1 qBX0_2 qBX0_3 qBX0_4 qBX0_5 qBX0_6 qBX0_7 qBX0_8 qBX0_9 qBX0_10 qVX0_0 qVX0_1 qVX0_2 qVX0_3 qVX0_4 qVX0_5 qVX0_6 qVX0_7 qVX0_8 qVX0_9 qVX0_10
 have HB11:=hid (bnext HB10.out hb11)
 have BX0_11:=hid (BX0_10.out.below hb11);clear BX0_10
 have R1_11:=hid (R1_10.out.below hb11);clear R1_10
 have VX0_11:=hid (VX0_10.out.below hb11);clear VX0_10
 have G1_11:=hid (G1_10.out.below hb11);clear G1_10
 have HS11:=hid hb11.size
 clear hb11
 have qBX0_0:World.cell? w11 ⟨w.heap.size,0,none⟩=some (.int .i64 ru0):=by rw [BX0_11.out.now.cell];rfl
 have qBX0_1:World.cell? w11 ⟨w.heap.size,1,none⟩=some (.int .i64 rl0.k):=by rw [BX0_11.out.now.cell];rfl
 have qBX0_2:World.cell? w11 ⟨w.heap.size,2,none⟩=some (.int .i64 rl0.n):=by rw [BX0_11.out.now.cell];rfl
 have qBX0_3:World.cell? w11 ⟨w.heap.size,3,none⟩=some (.int .i64 rl0.p):=by rw [BX0_11.out.now.cell];rfl
 have qBX0_4:World.cell? w11 ⟨w.heap.size,4,none⟩=some (.int .i64 rl0.c):=by rw [BX0_11.out.now.cell];rfl
 have qBX0_5:World.cell? w11 ⟨w.heap.size,5,none⟩=some (.slice KL0 rl0.ks.len cl0):=by rw [BX0_11.out.now.cell];rfl
 have qBX0_6:World.cell? w11 ⟨w.heap.size,6,none⟩=some (.int .i64 rr0.k):=by rw [BX0_11.out.now.cell];rfl
 have qBX0_7:World.cell? w11 ⟨w.heap.size,7,none⟩=some (.int .i64 rr0.n):=by rw [BX0_11.out.now.cell];rfl
 have qBX0_8:World.cell? w11 ⟨w.heap.size,8,none⟩=some (.int .i64 rr0.p):=by rw [BX0_11.out.now.cell];rfl
 have qBX0_9:World.cell? w11 ⟨w.heap.size,9,none⟩=some (.int .i64 rr0.c):=by rw [BX0_11.out.now.cell];rfl
 have qBX0_10:World.cell? w11 ⟨w.heap.size,10,none⟩=some (.slice KR0 rr0.ks.len cr0):=by rw [BX0_11.out.now.cell];rfl
 have qVX0_0:World.cell? w11 ⟨w4.heap.size,0,none⟩=some (.int .i64 ru0):=by rw [VX0_11.out.now.cell];rfl
 have qVX0_1:World.cell? w11 ⟨w4.heap.size,1,none⟩=some (.int .i64 rl0.k):=by rw [VX0_11.out.now.cell];rfl
 have qVX0_2:World.cell? w11 ⟨w4.heap.size,2,none⟩=some (.int .i64 rl0.n):=by rw [VX0_11.out.now.cell];rfl
 have qVX0_3:World.cell? w11 ⟨w4.heap.size,3,none⟩=some (.int .i64 rl0.p):=by rw [VX0_11.out.now.cell];rfl
 have qVX0_4:World.cell? w11 ⟨w4.heap.size,4,none⟩=some (.int .i64 rl0.c):=by rw [VX0_11.out.now.cell];rfl
 have qVX0_5:World.cell? w11 ⟨w4.heap.size,5,none⟩=some (.slice (some ⟨ga4,0,none⟩) rl0.ks.len rl0.ks.len):=by rw [VX0_11.out.now.cell];rfl
 have qVX0_6:World.cell? w11 ⟨w4.heap.size,6,none⟩=some (.int .i64 rr0.k):=by rw [VX0_11.out.now.cell];rfl
 have qVX0_7:World.cell? w11 ⟨w4.heap.size,7,none⟩=some (.int .i64 rr0.n):=by rw [VX0_11.out.now.cell];rfl
 have qVX0_8:World.cell? w11 ⟨w4.heap.size,8,none⟩=some (.int .i64 rr0.p):=by rw [VX0_11.out.now.cell];rfl
 have qVX0_9:World.cell? w11 ⟨w4.heap.size,9,none⟩=some (.int .i64 rr0.c):=by rw [VX0_11.out.now.cell];rfl
 have qVX0_10:World.cell? w11 ⟨w4.heap.size,10,none⟩=some (.slice (some ⟨gb4,0,none⟩) rr0.ks.len rr0.ks.len):=by rw [VX0_11.out.now.cell];rfl
 go_wp2_with fail
 refine (markR cG1 G1_11.out (by omega) (by omega) (by omega)).mono ?_;rintro e w12 ⟨rfl,hM12,hO12⟩
 clear G1_11
 clear qBX0_0 qBX0_1 qBX0_2 qBX0_3 qBX0_4 qBX0_5 qBX0_6 qBX0_7 qBX0_8 qBX0_9 qBX0_10 qVX0_0 qVX0_1 qVX0_2 qVX0_3 qVX0_4 qVX0_5 qVX0_6 qVX0_7 qVX0_8 qVX0_9 qVX0_10
 have hz12:w.heap.size≤w5.heap.size∧w5.heap.size≤w6.heap.size∧w6.heap.size≤w11.heap.size:=by have:=HS0.out;have:=HQB0.out;have:=HS1.out;have:=HS2.out;have:=HG2.out;have:=HQ2.out;have:=HS3.out;have:=HS4.out;have:=HG4.out;have:=HQ4.out;have:=HS5.out;have:=HQ5.out;have:=HS6.out;have:=HS7.out;have:=HS8.out;have:=HS9.out;have:=HS10.out;have:=HS11.out;omega
 have HB12:=hid (belowRegion HB11.out hO12 hz12.1)
 have BX0_12:=hid (BX0_11.out.apart hO12 (by have:=HS0.out;have:=HQB0.out;have:=HS1.out;have:=HS2.out;have:=HG2.out;have:=HQ2.out;have:=HS3.out;have:=HS4.out;have:=HG4.out;have:=HQ4.out;have:=HS5.out;have:=HQ5.out;have:=HS6.out;have:=HS7.out;have:=HS8.out;have:=HS9.out;have:=HS10.out;have:=HS11.out;omega));clear BX0_11
 have R1_12:=hid (R1_11.out.apart hO12 (by have:=HS0.out;have:=HQB0.out;have:=HS1.out;have:=HS2.out;have:=HG2.out;have:=HQ2.out;have:=HS3.out;have:=HS4.out;have:=HG4.out;have:=HQ4.out;have:=HS5.out;have:=HQ5.out;have:=HS6.out;have:=HS7.out;have:=HS8.out;have:=HS9.out;have:=HS10.out;have:=HS11.out;omega));clear R1_11
 have VX0_12:=hid (VX0_11.out.apart hO12 (by have:=HS0.out;have:=HQB0.out;have:=HS1.out;have:=HS2.out;have:=HG2.out;have:=HQ2.out;have:=HS3.out;have:=HS4.out;have:=HG4.out;have:=HQ4.out;have:=HS5.out;have:=HQ5.out;have:=HS6.out;have:=HS7.out;have:=HS8.out;have:=HS9.out;have:=HS10.out;have:=HS11.out;omega));clear VX0_11
 have HS12:=hid hO12.size
 clear hO12 hz12
 have G1_12:=hid hM12;clear hM12
 have qBX0_0:World.cell? w12 ⟨w.heap.size,0,none⟩=some (.int .i64 ru0):=by rw [BX0_12.out.now.cell];rfl
 have qBX0_1:World.cell? w12 ⟨w.heap.size,1,none⟩=some (.int .i64 rl0.k):=by rw [BX0_12.out.now.cell];rfl
 have qBX0_2:World.cell? w12 ⟨w.heap.size,2,none⟩=some (.int .i64 rl0.n):=by rw [BX0_12.out.now.cell];rfl
 have qBX0_3:World.cell? w12 ⟨w.heap.size,3,none⟩=some (.int .i64 rl0.p):=by rw [BX0_12.out.now.cell];rfl
 have qBX0_4:World.cell? w12 ⟨w.heap.size,4,none⟩=some (.int .i64 rl0.c):=by rw [BX0_12.out.now.cell];rfl
 have qBX0_5:World.cell? w12 ⟨w.heap.size,5,none⟩=some (.slice KL0 rl0.ks.len cl0):=by rw [BX0_12.out.now.cell];rfl
 have qBX0_6:World.cell? w12 ⟨w.heap.size,6,none⟩=some (.int .i64 rr0.k):=by rw [BX0_12.out.now.cell];rfl
 have qBX0_7:World.cell? w12 ⟨w.heap.size,7,none⟩=some (.int .i64 rr0.n):=by rw [BX0_12.out.now.cell];rfl
 have qBX0_8:World.cell? w12 ⟨w.heap.size,8,none⟩=some (.int .i64 rr0.p):=by rw [BX0_12.out.now.cell];rfl
 have qBX0_9:World.cell? w12 ⟨w.heap.size,9,none⟩=some (.int .i64 rr0.c):=by rw [BX0_12.out.now.cell];rfl
 have qBX0_10:World.cell? w12 ⟨w.heap.size,10,none⟩=some (.slice KR0 rr0.ks.len cr0):=by rw [BX0_12.out.now.cell];rfl
 have qVX0_0:World.cell? w12 ⟨w4.heap.size,0,none⟩=some (.int .i64 ru0):=by rw [VX0_12.out.now.cell];rfl
 have qVX0_1:World.cell? w12 ⟨w4.heap.size,1,none⟩=some (.int .i64 rl0.k):=by rw [VX0_12.out.now.cell];rfl
 have qVX0_2:World.cell? w12 ⟨w4.heap.size,2,none⟩=some (.int .i64 rl0.n):=by rw [VX0_12.out.now.cell];rfl
 have qVX0_3:World.cell? w12 ⟨w4.heap.size,3,none⟩=some (.int .i64 rl0.p):=by rw [VX0_12.out.now.cell];rfl
 have qVX0_4:World.cell? w12 ⟨w4.heap.size,4,none⟩=some (.int .i64 rl0.c):=by rw [VX0_12.out.now.cell];rfl
 have qVX0_5:World.cell? w12 ⟨w4.heap.size,5,none⟩=some (.slice (some ⟨ga4,0,none⟩) rl0.ks.len rl0.ks.len):=by rw [VX0_12.out.now.cell];rfl
 have qVX0_6:World.cell? w12 ⟨w4.heap.size,6,none⟩=some (.int .i64 rr0.k):=by rw [VX0_12.out.now.cell];rfl
 have qVX0_7:World.cell? w12 ⟨w4.heap.size,7,none⟩=some (.int .i64 rr0.n):=by rw [VX0_12.out.now.cell];rfl
 have qVX0_8:World.cell? w12 ⟨w4.heap.size,8,none⟩=some (.int .i64 rr0.p):=by rw [VX0_12.out.now.cell];rfl
 have qVX0_9:World.cell? w12 ⟨w4.heap.size,9,none⟩=some (.int .i64 rr0.c):=by rw [VX0_12.out.now.cell];rfl
 have qVX0_10:World.cell? w12 ⟨w4.heap.size,10,none⟩=some (.slice (some ⟨gb4,0,none⟩) rr0.ks.len rr0.ks.len):=by rw [VX0_12.out.now.cell];rfl
 go_wp2_with fail
 refine (heldR cG1 G1_12.out (by omega) (by omega) (by omega)).mono ?_;rintro e w' ⟨rfl,rfl⟩
 go_wp2_with fail
 clear VX0_12 qVX0_0 qVX0_1 qVX0_2 qVX0_3 qVX0_4 qVX0_5 qVX0_6 qVX0_7 qVX0_8 qVX0_9 qVX0_10
 refine (toRuleR ru0 rl0 rr0 KL0 KR0 cl0 cr0 w.heap.size _ ⟨S0.out.1.below HB12.out,S0.out.2.below HB12.out⟩ HB12.out.size Z0.out).mono ?_;rintro e w13 ⟨ga13,gb13,g13,hg13,rfl,hX13,hb13⟩
 clear qBX0_0 qBX0_1 qBX0_2 qBX0_3 qBX0_4 qBX0_5 qBX0_6 qBX0_7 qBX0_8 qBX0_9 qBX0_10
 have HB13:=hid (bnext HB12.out hb13)
 have BX0_13:=hid (BX0_12.out.below hb13);clear BX0_12
 have R1_13:=hid (R1_12.out.below hb13);clear R1_12
 have G1_13:=hid (G1_12.out.below hb13);clear G1_12
 have HS13:=hid hb13.size
 clear hb13
 have HG13:=hid hg13;clear hg13
 have Q0_13:=hid hX13;clear hX13
 have HQ13:=hid Q0_13.out.le
 have qBX0_0:World.cell? w13 ⟨w.heap.size,0,none⟩=some (.int .i64 ru0):=by rw [BX0_13.out.now.cell];rfl
 have qBX0_1:World.cell? w13 ⟨w.heap.size,1,none⟩=some (.int .i64 rl0.k):=by rw [BX0_13.out.now.cell];rfl
 have qBX0_2:World.cell? w13 ⟨w.heap.size,2,none⟩=some (.int .i64 rl0.n):=by rw [BX0_13.out.now.cell];rfl
 have qBX0_3:World.cell? w13 ⟨w.heap.size,3,none⟩=some (.int .i64 rl0.p):=by rw [BX0_13.out.now.cell];rfl
 have qBX0_4:World.cell? w13 ⟨w.heap.size,4,none⟩=some (.int .i64 rl0.c):=by rw [BX0_13.out.now.cell];rfl
 have qBX0_5:World.cell? w13 ⟨w.heap.size,5,none⟩=some (.slice KL0 rl0.ks.len cl0):=by rw [BX0_13.out.now.cell];rfl
 have qBX0_6:World.cell? w13 ⟨w.heap.size,6,none⟩=some (.int .i64 rr0.k):=by rw [BX0_13.out.now.cell];rfl
 have qBX0_7:World.cell? w13 ⟨w.heap.size,7,none⟩=some (.int .i64 rr0.n):=by rw [BX0_13.out.now.cell];rfl
 have qBX0_8:World.cell? w13 ⟨w.heap.size,8,none⟩=some (.int .i64 rr0.p):=by rw [BX0_13.out.now.cell];rfl
 have qBX0_9:World.cell? w13 ⟨w.heap.size,9,none⟩=some (.int .i64 rr0.c):=by rw [BX0_13.out.now.cell];rfl
 have qBX0_10:World.cell? w13 ⟨w.heap.size,10,none⟩=some (.slice KR0 rr0.ks.len cr0):=by rw [BX0_13.out.now.cell];rfl
 go_wp2_with fail
 refine (checkI' ru0 rl0 rr0 _ (regRule Q0_13.out Z0.out)).mono ?_
 rw [←V0.out,←V1.out,←V2.out]
 rintro e w14 ⟨hb14,AJ1,cJ1,rfl,hR14⟩
 clear Q0_13
 clear qBX0_0 qBX0_1 qBX0_2 qBX0_3 qBX0_4 qBX0_5 qBX0_6 qBX0_7 qBX0_8 qBX0_9 qBX0_10
 have HB14:=hid (bnext HB13.out hb14)
 have BX0_14:=hid (BX0_13.out.below hb14);clear BX0_13
 have R1_14:=hid (R1_13.out.below hb14);clear R1_13
 have G1_14:=hid (G1_13.out.below hb14);clear G1_13
 have HS14:=hid hb14.size
 clear hb14
 have J1_14:=hid hR14;clear hR14
 have qBX0_0:World.cell? w14 ⟨w.heap.size,0,none⟩=some (.int .i64 ru0):=by rw [BX0_14.out.now.cell];rfl
 have qBX0_1:World.cell? w14 ⟨w.heap.size,1,none⟩=some (.int .i64 rl0.k):=by rw [BX0_14.out.now.cell];rfl
 have qBX0_2:World.cell? w14 ⟨w.heap.size,2,none⟩=some (.int .i64 rl0.n):=by rw [BX0_14.out.now.cell];rfl
 have qBX0_3:World.cell? w14 ⟨w.heap.size,3,none⟩=some (.int .i64 rl0.p):=by rw [BX0_14.out.now.cell];rfl
 have qBX0_4:World.cell? w14 ⟨w.heap.size,4,none⟩=some (.int .i64 rl0.c):=by rw [BX0_14.out.now.cell];rfl
 have qBX0_5:World.cell? w14 ⟨w.heap.size,5,none⟩=some (.slice KL0 rl0.ks.len cl0):=by rw [BX0_14.out.now.cell];rfl
 have qBX0_6:World.cell? w14 ⟨w.heap.size,6,none⟩=some (.int .i64 rr0.k):=by rw [BX0_14.out.now.cell];rfl
 have qBX0_7:World.cell? w14 ⟨w.heap.size,7,none⟩=some (.int .i64 rr0.n):=by rw [BX0_14.out.now.cell];rfl
 have qBX0_8:World.cell? w14 ⟨w.heap.size,8,none⟩=some (.int .i64 rr0.p):=by rw [BX0_14.out.now.cell];rfl
 have qBX0_9:World.cell? w14 ⟨w.heap.size,9,none⟩=some (.int .i64 rr0.c):=by rw [BX0_14.out.now.cell];rfl
 have qBX0_10:World.cell? w14 ⟨w.heap.size,10,none⟩=some (.slice KR0 rr0.ks.len cr0):=by rw [BX0_14.out.now.cell];rfl
 go_wp2_with fail
 refine (eqR cJ1 cR1 (regInts J1_14.out) (regInts R1_14.out) (by omega)).mono ?_;rintro e w15 ⟨rfl,hb15⟩
 clear qBX0_0 qBX0_1 qBX0_2 qBX0_3 qBX0_4 qBX0_5 qBX0_6 qBX0_7 qBX0_8 qBX0_9 qBX0_10
 have HB15:=hid (bnext HB14.out hb15)
 have BX0_15:=hid (BX0_14.out.below hb15);clear BX0_14
 have R1_15:=hid (R1_14.out.below hb15);clear R1_14
 have G1_15:=hid (G1_14.out.below hb15);clear G1_14
 have J1_15:=hid (J1_14.out.below hb15);clear J1_14
 have HS15:=hid hb15.size
 clear hb15
 have qBX0_0:World.cell? w15 ⟨w.heap.size,0,none⟩=some (.int .i64 ru0):=by rw [BX0_15.out.now.cell];rfl
 have qBX0_1:World.cell? w15 ⟨w.heap.size,1,none⟩=some (.int .i64 rl0.k):=by rw [BX0_15.out.now.cell];rfl
 have qBX0_2:World.cell? w15 ⟨w.heap.size,2,none⟩=some (.int .i64 rl0.n):=by rw [BX0_15.out.now.cell];rfl
 have qBX0_3:World.cell? w15 ⟨w.heap.size,3,none⟩=some (.int .i64 rl0.p):=by rw [BX0_15.out.now.cell];rfl
 have qBX0_4:World.cell? w15 ⟨w.heap.size,4,none⟩=some (.int .i64 rl0.c):=by rw [BX0_15.out.now.cell];rfl
 have qBX0_5:World.cell? w15 ⟨w.heap.size,5,none⟩=some (.slice KL0 rl0.ks.len cl0):=by rw [BX0_15.out.now.cell];rfl
 have qBX0_6:World.cell? w15 ⟨w.heap.size,6,none⟩=some (.int .i64 rr0.k):=by rw [BX0_15.out.now.cell];rfl
 have qBX0_7:World.cell? w15 ⟨w.heap.size,7,none⟩=some (.int .i64 rr0.n):=by rw [BX0_15.out.now.cell];rfl
 have qBX0_8:World.cell? w15 ⟨w.heap.size,8,none⟩=some (.int .i64 rr0.p):=by rw [BX0_15.out.now.cell];rfl
 have qBX0_9:World.cell? w15 ⟨w.heap.size,9,none⟩=some (.int .i64 rr0.c):=by rw [BX0_15.out.now.cell];rfl
 have qBX0_10:World.cell? w15 ⟨w.heap.size,10,none⟩=some (.slice KR0 rr0.ks.len cr0):=by rw [BX0_15.out.now.cell];rfl
 go_wp2_with fail
 refine (heldR cG1 G1_15.out (by omega) (by omega) (by omega)).mono ?_;rintro e w' ⟨rfl,rfl⟩
 clear qBX0_0 qBX0_1 qBX0_2 qBX0_3 qBX0_4 qBX0_5 qBX0_6 qBX0_7 qBX0_8 qBX0_9 qBX0_10
 go_wp2
 go_ret
 exact ⟨rfl,HB15.out⟩
theorem lawExactCheckRule (ru0:Int) (rl0 rr0:Nd) (KL0 KR0:Option Addr) (cl0 cr0:Nat) (w:World) (h0:ExSl w w.heap.size rl0.ks KL0) (hcl0:rl0.ks.len≤cl0) (hml0:cl0≤maxLen) (hr0:ExSl w w.heap.size rr0.ks KR0) (hcr0:rr0.ks.len≤cr0) (hmr0:cr0≤maxLen) :
  Calls Tryz.prog 3 #[ruV ru0 rl0 KL0 cl0 rr0 KR0 cr0] w fun e w'=>e=.returned (.bool true)∧Below w.heap.size w w':=by
 by_cases c0:rl0.ks.size+rr0.ks.size≤1048576
 case neg=>exact lawExactCheckRule_0 ru0 rl0 rr0 KL0 KR0 cl0 cr0 w h0 hcl0 hml0 hr0 hcr0 hmr0 c0
 exact lawExactCheckRule_ok ru0 rl0 rr0 KL0 KR0 cl0 cr0 w h0 hcl0 hml0 hr0 hcr0 hmr0 c0
end
end Go.Proofs.YtgfkglhelfkpoaaGreat
