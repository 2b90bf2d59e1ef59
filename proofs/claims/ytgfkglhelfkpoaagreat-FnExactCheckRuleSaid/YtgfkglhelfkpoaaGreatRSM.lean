/- Texts put together: WRuleS2, WRuleS3. -/
import Derived.Test.YtgfkglhelfkpoaaGreatRSL
import Derived.Test.YtgfkglhelfkpoaaGreatRSH
import Derived.Test.YtgfkglhelfkpoaaGreatRZ1
set_option maxRecDepth 100000
set_option maxHeartbeats 4000000
open Go.Lib (hid)
namespace Go.Proofs.YtgfkglhelfkpoaaGreat
section
open Go.RowKit Plain
def FreePost (bo:Nat) (l:List Int) (w:World) (e:Ending) (w':World):Prop:=
 e=.returned (.bool true)∧(∃ A cap,w'.cell? ⟨bo,0,none⟩=some (.slice A l.length cap)∧w'.frozen? ⟨bo,0,none⟩=false∧Ints w' A l)∧Only (fun q=>q=bo) w w'
def FreeC (ks:Es):Prop:=∀ (k n p c:Int) (b o B bo:Nat) (acc:List Int) (A:Option Addr) (cp:Nat) (vars:Int) (w:World),ElAt w B k n p c ks b o→B≤w.heap.size→ks.size≤1000→B≤bo→bo<w.heap.size→w.cell? ⟨bo,0,none⟩=some (.slice A acc.length cp)→w.frozen? ⟨bo,0,none⟩=false→Ints w A acc→acc.length+ks.size+1≤400 →
 plainK k=true→plainL ks=true→formed [] 0 vars ⟨k,n,p,c,ks⟩=true→0≤vars→vars≤412 →
 Calls Tryz.prog 196 #[ptr b o,.int .i64 vars,.int .i64 vars,ptr bo 0] w (FreePost bo (occN k n ks acc) w)
theorem ints_set {w:World} {A:Option Addr} {l:List Int} {bo n c:Nat} {S:Option Addr} (h:Ints w A l) (hc:w.cell? ⟨bo,0,none⟩=some (.slice S n c)) (x:Value):Ints (w.setCell ⟨bo,0,none⟩ x) A l:=fun hn=>by
 obtain ⟨b,o,e,hb,hcs⟩:=h hn
 refine ⟨b,o,e,by simpa [World.setCell] using hb,fun j y hy=>?_⟩
 have h1:=hcs j y hy
 rw [World.cell?_setCell_other _ _ _ _ (fun e=>?_)]
 ·exact h1
 ·rw [←e,hc] at h1
  injection h1 with h1;cases h1
theorem setCell_self {w:World} {a:Addr} {v:Value} (h:w.cell? a=some v) (hf:w.frozen? a=false) (x:Value):(w.setCell a x).cell? a=some x∧(w.setCell a x).frozen? a=false:=by
 refine ⟨?_, ?_⟩
 ·exact World.cell?_setCell_same' w a x (by rw [h];rfl)
 ·rw [World.frozen?_setCell];exact hf
theorem free_any:∀ (m:Nat) (ks:Es),ks.size<m→FreeC ks:=by
 intro m
 induction m with
 | zero=>intro es h;omega
 | succ m ih=>
 intro ks hm k n p c b o B bo acc A cp vars w hE hB hsz0 hboB hbow hoc hof hAI hal hpk hpl hfm hv0 hv1
 have IH:=hid ih;clear ih
 obtain ⟨hbB,h0,h1,h2,h3,K,cap,b',o',h4,hc,hcm,hK,hks⟩:=hE
 have HKS:=hid hks;clear hks
 have hcm':cap≤9223372036854775807:=by unfold maxLen at hcm;omega
 have hbw:b<w.heap.size:=by omega
 have hls:=Es.len_le_size ks
 have hk:=plainK_iff.1 hpk
 have hk9:(k==9)=false:=beq_eq_false_iff_ne.2 (by omega)
 have hk9':¬ k=9:=by omega
 have HKV:Hid (∀ j,kidVars k vars j=vars):=fun j=>by unfold kidVars;rw [if_neg (by omega)]
 unfold formed at hfm
 simp only [Bool.and_eq_true] at hfm
 have hnk:=hfm.1
 have HFM:Hid (formedL [] 0 ks k 0 vars=true):=hfm.2
 have HPL:Hid (plainL ks=true):=hpl
 clear hfm hpl hpk
 by_cases hk2:k=2
 ·subst hk2
  have hnb:0≤n∧n<vars∧ks.len=0:=by
   unfold nodeOk at hnk
   simp at hnk
   have:=inR_true.1 hnk.2.2
   omega
  obtain ⟨hn0,hn1,hl0⟩:=hnb
  have hks0:ks=.nil:=Es.len0 hl0
  subst hks0
  have HIN:=hid (fun wx=>in_bq true n 0 (vars - 1) (inR_true.2 (by omega)) wx)
  have hwv:IntKind.i64.wrap (vars - 1)=vars - 1:=by rw [IntKind.wrap_i64];omega
  have HPT:Hid (Calls Tryz.prog 245 #[.slice A acc.length cp,.int .i64 n] w.drew fun e w'=>∃ A2 c2,e=.returned (.slice A2 (insS n acc).length c2)∧Ints w' A2 (insS n acc)∧Below w.heap.size w w'):=by
   refine (put0_any A cp acc n w.drew (hAI.below (Below.refl _ _).drew) (by omega)).mono ?_
   rintro e w' ⟨A2,c2,h1,h2,h3⟩
   exact ⟨A2,c2,h1,SlO.ints h2,⟨h3.os,h3.tape,h3.output,h3.size,h3.block⟩⟩
  have HS0:Hid (w.cell? ⟨bo,0,none⟩=some (.slice A acc.length cp)∧w.cell? ⟨b,o+1,none⟩=some (.int .i64 n)):=⟨hoc,h1⟩
  have HLN:Hid (bo<w.heap.size∧b<w.heap.size):=⟨hbow,hbw⟩
  clear hnk hls HKS HFM HPL HKV IH hAI
  go_enter Tryz.func196,Tryz.ntmps196
  go_wp2_with (go_at_call 106;refine (HIN.out _).mono ?_;rintro e w' ⟨rfl,hww⟩;obtain rfl:=hww.symm)
  refine RegE.start (S:=(fun wx=>wx.cell? ⟨bo,0,none⟩=some (.slice A acc.length cp)∧wx.cell? ⟨b,o+1,none⟩=some (.int .i64 n))) 10 (by kernel_rfl) (by kernel_rfl) ?S0 (fun hHeld hB=>?_)
  case S0=>((try dsimp only);exact HS0.out)
  refine RegE.take (i:=0) (v:=?v0) hB rfl (by decide) (by kernel_rfl) (by kernel_rfl) (fun _ _ _ h=>h) (Or.inl ⟨by rfl, ?y0⟩) hHeld ?r0
  case y0=>((intro w hSw;(try dsimp only at hSw);go_simp)<;>with_reducible rfl)
  (try simp only [Act.put,List.setIfInBounds_toArray])
  refine RegE.take (i:=1) (v:=?v1) hB rfl (by decide) (by kernel_rfl) (by kernel_rfl) (fun _ _ _ h=>h) (Or.inl ⟨by rfl, ?y1⟩) hHeld ?r1
  case y1=>((intro w hSw;(try dsimp only at hSw);go_simp)<;>with_reducible rfl)
  (try simp only [Act.put])
  refine RegE.take (i:=2) (v:=?v2) hB rfl (by decide) (by kernel_rfl) (by kernel_rfl) (fun _ _ _ h=>h) (Or.inl ⟨by rfl, ?y2⟩) hHeld ?r2
  case y2=>((intro w hSw;(try dsimp only at hSw);go_simp)<;>with_reducible rfl)
  (try simp only [Act.put])
  refine RegE.take (i:=3) (v:=?v3) hB rfl (by decide) (by kernel_rfl) (by kernel_rfl) (fun _ _ _ h=>h) (Or.inl ⟨by rfl, ?y3⟩) hHeld ?r3
  case y3=>((intro w hSw;(try dsimp only at hSw);go_simp)<;>with_reducible rfl)
  (try simp only [Act.put])
  refine RegE.take (i:=4) (v:=?v4) hB rfl (by decide) (by kernel_rfl) (by kernel_rfl) (fun _ _ _ h=>h) (Or.inl ⟨by rfl, ?y4⟩) hHeld ?r4
  case y4=>((intro w hSw;(try dsimp only at hSw);go_simp)<;>with_reducible rfl)
  (try simp only [Act.put])
  refine RegE.take (i:=5) (v:=?v5) hB rfl (by decide) (by kernel_rfl) (by kernel_rfl) (fun _ _ _ h=>h) (Or.inl ⟨by rfl, ?y5⟩) hHeld ?r5
  case y5=>((intro w hSw;(try dsimp only at hSw);go_simp)<;>with_reducible rfl)
  (try simp only [Act.put])
  refine RegE.take (i:=6) (v:=?v6) hB rfl (by decide) (by kernel_rfl) (by kernel_rfl) (fun _ _ _ h=>h) (Or.inl ⟨by rfl, ?y6⟩) hHeld ?r6
  case y6=>((intro w hSw;(try dsimp only at hSw);go_simp)<;>with_reducible rfl)
  (try simp only [Act.put])
  refine RegE.take (i:=7) (v:=?v7) hB rfl (by decide) (by kernel_rfl) (by kernel_rfl) (fun _ _ _ h=>h) (Or.inl ⟨by rfl, ?y7⟩) hHeld ?r7
  case y7=>((intro w hSw;(try dsimp only at hSw);go_simp)<;>with_reducible rfl)
  (try simp only [Act.put])
  refine RegE.step (i:=8) rfl (by decide) (by kernel_rfl) (fun K hK=>?_)
  go_simp
  go_at_call 245
  with_reducible refine HPT.out.mono ?_
  rintro e w2 ⟨A2,c2,rfl,hi2,hb2⟩
  go_wp2_with fail
  refine hK.out _ _ ?S8 (fun hHeldN=>?_)
  case S8=>((try dsimp only);exact ⟨keepC HS0.out.1 hb2,keepC HS0.out.2 hb2⟩)
  clear hK K hHeld
  have hHeld:=hHeldN
  clear hHeldN
  (try simp only [Act.put,List.setIfInBounds_toArray,List.set_cons_zero,List.set_cons_succ])
  refine RegE.take (i:=9) (v:=?v9) hB rfl (by decide) (by kernel_rfl) (by kernel_rfl) (fun _ _ _ h=>h) (Or.inl ⟨by rfl, ?y9⟩) hHeld ?r9
  case y9=>((intro w hSw;(try dsimp only at hSw);go_simp)<;>with_reducible rfl)
  (try simp only [Act.put,List.setIfInBounds_toArray])
  have z1:=(hb2.cell (p:=⟨bo,0,none⟩) hbow).trans hoc
  have z2:=(hb2.frozen (p:=⟨bo,0,none⟩) hbow).trans hof
  refine RegE.last rfl (by kernel_rfl) (by kernel_rfl) (fun K hK=>?_)
  go_simp
  refine hK.out _ _ ?_
  clear hK K
  have HI3:=hid (ints_set hi2 z1 (.slice A2 (insS n acc).length c2))
  have HO3:Hid (Only (fun q=>q=bo) w (w2.setCell ⟨bo,0,none⟩ (.slice A2 (insS n acc).length c2))):=(Only.of_below hb2).trans ⟨rfl,rfl,rfl,by simp [World.setCell],fun q _ hq=>Below.heap_setCell _ _ _ _ hq⟩
  have HC3:Hid ((w2.setCell ⟨bo,0,none⟩ (.slice A2 (insS n acc).length c2)).cell? ⟨bo,0,none⟩=some (.slice A2 (insS n acc).length c2)∧(w2.setCell ⟨bo,0,none⟩ (.slice A2 (insS n acc).length c2)).frozen? ⟨bo,0,none⟩=false):=setCell_self z1 z2 _
  have k0:=(hb2.cell (p:=⟨b,o,none⟩) hbw).trans h0
  have k4:=(hb2.cell (p:=⟨b,o+4,none⟩) hbw).trans h4
  have hbne:b≠bo:=by omega
  have k0':(w2.setCell ⟨bo,0,none⟩ (.slice A2 (insS n acc).length c2)).cell? ⟨b,o,none⟩=some (.int .i64 2):=by rw [World.cell?_setCell_other _ _ _ _ (fun e=>hbne (congrArg Addr.block e).symm)];exact k0
  have k4':(w2.setCell ⟨bo,0,none⟩ (.slice A2 (insS n acc).length c2)).cell? ⟨b,o+4,none⟩=some (.slice K 0 cap):=by rw [World.cell?_setCell_other _ _ _ _ (fun e=>hbne (congrArg Addr.block e).symm)];exact k4
  clear hHeld z1 z2 k0 k4 hi2 hb2
  generalize w2.setCell ⟨bo,0,none⟩ (.slice A2 (insS n acc).length c2)=w3 at *
  go_wp2_with fail
  go_loopw [9] (fun i wr=>i=.int .i64 0∧w3=wr) (fun _ _=>0)
  case atStart=>exact ⟨by go_num,rfl⟩
  case round=>
   obtain ⟨rfl,rfl⟩:=hrel
   go_wp2
   go_ret
   exact ⟨rfl,⟨A2,c2,HC3.out.1,HC3.out.2,HI3.out⟩,HO3.out⟩
 ·have hk2b:(k==2)=false:=beq_eq_false_iff_ne.2 hk2
  have HEQ:Hid (occN k n ks acc=occL ks acc):=by show _=_;unfold occN;rw [if_neg hk2]
  rw [HEQ.out]
  have HOC:Hid (w.cell? ⟨bo,0,none⟩=some (.slice A acc.length cp)∧w.frozen? ⟨bo,0,none⟩=false):=⟨hoc,hof⟩
  have HAI:=hid hAI
  clear hnk hAI hoc hof
  go_enter Tryz.func196,Tryz.ntmps196
  go_wp2
  go_loopw [9] (fun i wr=>∃ (j:Nat) (es':Es) (acc':List Int) (A':Option Addr) (cap':Nat),i=.int .i64 (j:Int)∧j+es'.len=ks.len∧Hid (occL ks acc=occL es' acc')∧Hid (plainL es'=true)∧Hid (formedL [] 0 es' k j vars=true)∧Hid (acc'.length+es'.size≤acc.length+ks.size)∧Hid (es'.size≤ks.size)∧Hid (ExsAt wr B es' b' (o'+j*5))∧Hid (wr.cell? ⟨bo,0,none⟩=some (.slice A' acc'.length cap')∧wr.frozen? ⟨bo,0,none⟩=false)∧Hid (Ints wr A' acc')∧Hid (Only (fun q=>q=bo) w wr)) (fun i _=>ks.len - (intOf i).toNat)
  case atStart=>exact ⟨0,ks,acc,A,cp,by go_num,by omega,rfl,HPL,HFM,Nat.le_refl _,Nat.le_refl _,by show ExsAt _ _ _ _ _;rw [Nat.zero_mul,Nat.add_zero];exact HKS.out,HOC,HAI,Only.refl _ _⟩
  case round=>
   obtain ⟨j,es',acc',A',cap',rfl,hj,hy,hpl,hfm,hsa,hsz,HE,HOC',HAI',HO⟩:=hrel
   clear HOC HAI HPL HFM
   have hbo':Below B w wr:=HO.out.below hB (fun q hq=>by omega)
   have h4':wr.cell? ⟨b,o+4,none⟩=some (.slice K ks.len cap):=(hbo'.cell (p:=⟨b,_,none⟩) hbB).trans h4
   have h0':wr.cell? ⟨b,o,none⟩=some (.int .i64 k):=(hbo'.cell (p:=⟨b,_,none⟩) hbB).trans h0
   cases es' with
   | nil=>
    simp only [Es.len] at hj
    have HV:Hid (occL ks acc=acc'):=hy.out
    go_wp2
    go_ret
    exact ⟨rfl,⟨A',cap',by rw [HV.out];exact HOC'.out.1,HOC'.out.2,by rw [HV.out];exact HAI'.out⟩,HO.out⟩
   | cons kk n' p' c' ks' r=>
    simp only [Es.len] at hj
    have hK:=hK (by omega)
    subst hK
    obtain ⟨hel,hr⟩:=HE.out
    have HEL:=hid hel
    have HR:=hid hr
    have hp:=hpl.out
    have hf:=hfm.out
    simp only [plainL,Bool.and_eq_true] at hp
    simp only [formedL,Bool.and_eq_true] at hf
    rw [HKV.out] at hf
    have HP2:Hid (plainL r=true):=hp.2
    have HF2:Hid (formedL [] 0 r k (j+1) vars=true):=hf.2
    have hrs:Hid (r.size≤ks.size∧ks'.size<ks.size∧acc'.length+(1+ks'.size+r.size)≤acc.length+ks.size):=by
     have:=hsz.out
     have h2:=hsa.out
     simp only [Es.size] at this h2
     exact ⟨by omega,by omega,by omega⟩
    have hle:=occL_len ks' (if kk=2 then insS n' acc' else acc')
    have hle2:(if kk=2 then insS n' acc' else acc').length≤acc'.length+1:=by
     split
     ·exact insS_le
     ·omega
    have HAL:Hid ((occN kk n' ks' acc').length+r.size≤acc.length+ks.size):=by
     have:=hrs.out;show _≤_;unfold occN;omega
    have HC:=hid (IH.out ks' (by have:=hrs.out;omega) kk n' p' c' b' (o'+j*5) B bo acc' A' cap' vars wr HEL.out (by have:=HO.out.size;omega) (by have:=hrs.out;omega) hboB (by have:=HO.out.size;omega) HOC'.out.1 HOC'.out.2 HAI'.out (by have:=hrs.out;omega) hp.1.1 hp.1.2 (by unfold formed;rw [hf.1.1,hf.1.2];rfl) hv0 hv1)
    clear hel hr HE hp hf hpl hfm hle hle2 HEL
    go_wp2_with fail
    refine HC.out.mono ?_;rintro e w1 ⟨rfl,⟨A2,cap2,hc1,hc2,hi1⟩,ho1⟩
    have hb1:Below B wr w1:=ho1.below (by have:=HO.out.size;omega) (fun q hq=>by omega)
    have HE1:Hid (ExsAt w1 B r b' (o'+(j+1)*5)):=by
     have:=HR.out.below hb1
     rwa [show o'+j*5+5=o'+(j+1)*5 by omega] at this
    have HO1:=hid (HO.out.trans ho1)
    have HOC2:Hid (w1.cell? ⟨bo,0,none⟩=some (.slice A2 (occN kk n' ks' acc').length cap2)∧w1.frozen? ⟨bo,0,none⟩=false):=⟨hc1,hc2⟩
    have HAI2:=hid hi1
    have HY2:Hid (occL ks acc=occL r (occN kk n' ks' acc')):=hy.out
    clear hb1 hc1 hc2 hi1 ho1 HC HR HO hbo' h4' h0' HOC' HAI' hy
    go_wp2
    go_roundw
    case rel=>exact ⟨j+1,r,_,A2,cap2,by go_num,by omega,HY2,HP2,HF2,HAL,hrs.out.1,HE1,HOC2,HAI2,HO1⟩
    case measure=>simp [intOf];omega
theorem occursS_any (x:Nd) (b o B:Nat) (vars:Int) (w:World) (hE:ElAt w B x.k x.n x.p x.c x.ks b o) (hB:B≤w.heap.size) (hsz:x.ks.size≤39) (hp:x.plain=true) (hf:formed [] 0 vars x=true) (hv0:0≤vars) (hv1:vars≤412) :
  Calls Tryz.prog 121 #[ptr b o,.int .i64 vars] w fun e w'=>∃ A cap,e=.returned (.slice A x.occ.length cap)∧Ints w' A x.occ∧Below w.heap.size w w':=by
 obtain ⟨W0,hW0⟩:∃ W0,W0=(w.alloc (.cells #[] 2)).alloc (.cells #[.slice (some ⟨w.heap.size,0,none⟩) 0 0] 28):=⟨_,rfl⟩
 have hb0:Below w.heap.size w W0:=by rw [hW0];go_grown
 have hs0:W0.heap.size=w.heap.size+2:=by rw [hW0];simp
 have hq:Cells W0 (w.heap.size+1) 28 [.slice (some ⟨w.heap.size,0,none⟩) 0 0]:=by
  rw [hW0]
  have:=Cells.new (w.alloc (.cells #[] 2)) 28 [.slice (some ⟨w.heap.size,0,none⟩) 0 0]
  simpa using this
 have hpp:=hp
 unfold Nd.plain at hpp
 simp only [Bool.and_eq_true] at hpp
 have HC:=hid (free_any _ x.ks (Nat.lt_succ_self _) x.k x.n x.p x.c b o B (w.heap.size+1) [] (some ⟨w.heap.size,0,none⟩) 0 vars W0 (hE.below (hb0.mono hB)) (by omega) (by omega) (by omega) (by omega) (by rw [hq.cell];rfl) (hq.frozen _) (fun h=>by simp at h) (by simp;omega) hpp.1 hpp.2 hf hv0 hv1)
 have HB0:=hid hb0
 have HW0:=hid hW0
 have HS0:=hid hs0
 clear hE hp hpp hf hb0 hW0 hs0 hq
 go_enter Tryz.func121,Tryz.ntmps121
 go_wp2_with fail
 rw [←HW0.out]
 refine HC.out.mono ?_
 rintro e w2 ⟨rfl,⟨A,cap,hc1,_,hi1⟩,ho⟩
 have HI:=hid hi1
 have HB2:Hid (Below w.heap.size w w2):=HB0.out.trans (ho.below (by have:=HS0.out;omega) (fun q hq=>by omega))
 have HEQ:Hid (occN x.k x.n x.ks []=x.occ):=rfl
 rw [HEQ.out] at hc1 HI
 clear hi1 ho
 go_wp2
 go_ret
 exact ⟨A,cap,rfl,HI.out,HB2.out⟩
end
section
open Go.RowKit Plain
theorem prAt_empty {w:World} {b o B:Nat} (hb:b<B) (h:w.cell? ⟨b,o,none⟩=some (.slice none 0 0)):PrAt w B [] b o:=
 ⟨hb,none,0,h,Nat.le_refl _,by unfold maxLen;omega,0,0,fun h=>by simp at h,trivial⟩
theorem sideOk_size {x:Nd} {v:Int} (h:¬ x.size≤40):sideOk x v=false:=by unfold sideOk;simp;intro _ h';exact absurd h' h
theorem sideOk_plain {x:Nd} {v:Int} (h:x.plain=false):sideOk x v=false:=by unfold sideOk;simp [h]
theorem sideOk_rest {x:Nd} {v:Int} (h1:x.size≤40) (h2:x.plain=true):sideOk x v=exprOk [] x v 0:=by unfold sideOk;simp [h1,h2]
theorem sideS_any (x:Nd) (b o B:Nat) (v:Int) (w:World) (hE:ElAt w B x.k x.n x.p x.c x.ks b o) (hB:B≤w.heap.size) (hsz:x.ks.size≤1048576) :
  Calls Tryz.prog 120 #[ptr b o,.int .i64 v] w fun e w'=>e=.returned (.bool (sideOk x v))∧Below w.heap.size w w':=by
 obtain ⟨W0,hW0⟩:∃ W0,W0=w.alloc (.cells #[.slice none 0 0] 51):=⟨_,rfl⟩
 have hb0:Below w.heap.size w W0:=by rw [hW0];go_grown
 have hs0:W0.heap.size=w.heap.size+1:=by rw [hW0];simp
 have hq:Cells W0 w.heap.size 51 [.slice none 0 0]:=by rw [hW0];exact Cells.new w 51 [.slice none 0 0]
 have HC1:Hid (∀ wx,Below W0.heap.size W0 wx→Calls Tryz.prog 194 #[ptr b o] wx fun e w'=>e=.returned (.int .i64 ((x.ks.size+1:Nat):Int))∧Below wx.heap.size wx w'):=fun wx h=>
  l02Size_any _ x.ks (Nat.lt_succ_self _) x.k x.n x.p x.c b o B wx ((hE.below (hb0.mono hB)).below (h.mono (by omega))) (by have:=h.size;omega) hsz
 have HC2:Hid (∀ wx,Below W0.heap.size W0 wx→Calls Tryz.prog 195 #[ptr b o] wx fun e w'=>e=.returned (.bool x.plain)∧Below wx.heap.size wx w'):=fun wx h=>
  plainS_any _ x.ks (Nat.lt_succ_self _) x.k x.n x.p x.c b o B wx ((hE.below (hb0.mono hB)).below (h.mono (by omega))) (by have:=h.size;omega) hsz
 have HC3:Hid (∀ wx,Below W0.heap.size W0 wx→Calls Tryz.prog 68 #[ptr w.heap.size 0,ptr b o,.int .i64 v,.int .i64 0] wx fun e w'=>e=.returned (.bool (exprOk [] x v 0))∧Below wx.heap.size wx w'):=fun wx h=>
  exprS_any [] x.ks x.k x.n x.p x.c v 0 b o w.heap.size 0 (w.heap.size+1) wx ((((hE.below (hb0.mono hB)).below (h.mono (by omega)))).mono (by omega)) (prAt_empty (by omega) (by rw [(hq.next h).cell];rfl)) (by have:=h.size;omega) hsz
 have HB0:=hid hb0
 have HW0:=hid hW0
 have hszn:((x.ks.size+1:Nat):Int)=(x.size:Int):=by unfold Nd.size;omega
 rw [hszn] at HC1
 clear hE hb0 hs0 hq hW0
 by_cases h40:x.size≤40
 ·have h40z:(x.size:Int)≤40:=by omega
  have h40b:decide ((x.size:Int)≤40)=true:=decide_eq_true h40z
  cases hpl:x.plain
  ·rw [sideOk_plain hpl]
   rw [hpl] at HC2
   clear hpl
   go_enter Tryz.func120,Tryz.ntmps120
   go_wp2_with fail
   rw [←HW0.out]
   refine (HC1.out _ (Below.refl _ _)).mono ?_;rintro e w1 ⟨rfl,hb1⟩
   have H2:=hid (HC2.out w1 hb1)
   have HB1:=hid hb1
   clear hb1
   go_wp2_with fail
   refine H2.out.mono ?_;rintro e w2 ⟨rfl,hb2⟩
   have HB2:Hid (Below w.heap.size w w2):=HB0.out.trans ((bnext HB1.out hb2).mono HB0.out.size)
   clear hb2
   go_wp2
   go_ret
   exact ⟨rfl,HB2.out⟩
  ·rw [sideOk_rest h40 hpl]
   rw [hpl] at HC2
   clear hpl
   go_enter Tryz.func120,Tryz.ntmps120
   go_wp2_with fail
   rw [←HW0.out]
   refine (HC1.out _ (Below.refl _ _)).mono ?_;rintro e w1 ⟨rfl,hb1⟩
   have H2:=hid (HC2.out w1 hb1)
   have HB1:=hid hb1
   clear hb1
   go_wp2_with fail
   refine H2.out.mono ?_;rintro e w2 ⟨rfl,hb2⟩
   have HB2:=hid (bnext HB1.out hb2)
   have H3:=hid (HC3.out w2 HB2.out)
   clear hb2
   go_wp2_with fail
   refine H3.out.mono ?_;rintro e w3 ⟨rfl,hb3⟩
   have HB3:Hid (Below w.heap.size w w3):=HB0.out.trans ((bnext HB2.out hb3).mono HB0.out.size)
   clear hb3
   go_wp2
   go_ret
   exact ⟨rfl,HB3.out⟩
 ·rw [sideOk_size h40]
  have h40z:¬ (x.size:Int)≤40:=by omega
  have h40b:decide ((x.size:Int)≤40)=false:=decide_eq_false h40z
  go_enter Tryz.func120,Tryz.ntmps120
  go_wp2_with fail
  rw [←HW0.out]
  refine (HC1.out _ (Below.refl _ _)).mono ?_;rintro e w1 ⟨rfl,hb1⟩
  have HB1:Hid (Below w.heap.size w w1):=HB0.out.trans (hb1.mono HB0.out.size)
  clear hb1
  go_wp2
  go_ret
  exact ⟨rfl,HB1.out⟩
structure RuleAt (w:World) (B:Nat) (v:Int) (l r:Nd) (b o:Nat):Prop where
 vars:w.cell? ⟨b,o,none⟩=some (.int .i64 v)
 left:ElAt w B l.k l.n l.p l.c l.ks b (o+1)
 right:ElAt w B r.k r.n r.p r.c r.ks b (o+6)
theorem RuleAt.below {w w':World} {B:Nat} {v:Int} {l r:Nd} {b o:Nat} (h:RuleAt w B v l r b o) (hb:Below B w w'):RuleAt w' B v l r b o:=
 ⟨(hb.cell (p:=⟨b,o,none⟩) h.left.1).trans h.vars,h.left.below hb,h.right.below hb⟩
theorem sideOk_parts {x:Nd} {v:Int} (h:sideOk x v=true):x.ks.size≤39∧x.plain=true∧formed [] 0 v x=true∧0≤v∧v≤412:=by
 unfold sideOk exprOk at h
 simp only [Bool.and_eq_true,decide_eq_true_eq] at h
 have h2:=h.1.2
 unfold Nd.size at h2
 have h3:=inR_true.1 h.1.1.1.1.1.1
 exact ⟨by omega,h.2,h.1.1.2,h3.1,h3.2⟩
end
end Go.Proofs.YtgfkglhelfkpoaaGreat
