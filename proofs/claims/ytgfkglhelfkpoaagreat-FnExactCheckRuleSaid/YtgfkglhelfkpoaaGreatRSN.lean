/- Texts put together: WRuleS4. -/
import Derived.Test.YtgfkglhelfkpoaaGreatRSM
set_option maxRecDepth 100000
set_option maxHeartbeats 8000000
open Go.Lib (hid)
namespace Go.Proofs.YtgfkglhelfkpoaaGreat
section
open Go.RowKit Plain
theorem ruleS_any (v:Int) (l r:Nd) (b o B:Nat) (w:World) (hE:RuleAt w B v l r b o) (hB:B≤w.heap.size) (hl:l.ks.size≤1048576) (hr:r.ks.size≤1048576) :
  Calls Tryz.prog 57 #[ptr b o] w fun e w'=>e=.returned (.bool (ruleOk v l r))∧Below w.heap.size w w':=by
 have HR0:=hid hE
 have HIN:=hid (fun wx=>in_bq (inR v 0 3) v 0 3 rfl wx)
 have HL:Hid (∀ wx,Below w.heap.size w wx→Calls Tryz.prog 120 #[ptr b (o+1),.int .i64 v] wx fun e w'=>e=.returned (.bool (sideOk l v))∧Below wx.heap.size wx w'):=fun wx h=>
  sideS_any l b (o+1) B v wx (hE.left.below (h.mono hB)) (Nat.le_trans hB h.size) hl
 have HR:Hid (∀ wx,Below w.heap.size w wx→Calls Tryz.prog 120 #[ptr b (o+6),.int .i64 v] wx fun e w'=>e=.returned (.bool (sideOk r v))∧Below wx.heap.size wx w'):=fun wx h=>
  sideS_any r b (o+6) B v wx (hE.right.below (h.mono hB)) (Nat.le_trans hB h.size) hr
 have HS1:Hid (w.cell? ⟨b,o,none⟩=some (.int .i64 v)∧w.cell? ⟨b,o+1,none⟩=some (.int .i64 l.k)):=⟨hE.vars,hE.left.2.1⟩
 have HS0:Hid (w.drew.cell? ⟨b,o,none⟩=some (.int .i64 v)∧w.drew.cell? ⟨b,o+1,none⟩=some (.int .i64 l.k)):=HS1.out
 have hbw:b<w.heap.size:=Nat.lt_of_lt_of_le hE.left.1 hB
 clear hE
 cases hin:inR v 0 3
 case false=>
  have HV:Hid (ruleOk v l r=false):=by show _=_;unfold ruleOk;rw [hin];rfl
  rw [HV.out]
  rw [hin] at HIN
  clear hin
  go_enter Tryz.func57,Tryz.ntmps57
  go_wp2_with fail
  refine RegE.start (S:=(fun wx=>wx.cell? ⟨b,o,none⟩=some (.int .i64 v)∧wx.cell? ⟨b,o+1,none⟩=some (.int .i64 l.k))) 35 (by kernel_rfl) (by kernel_rfl) ?Sv0 (fun hHeld hB=>?_)
  case Sv0=>((try dsimp only);exact HS0.out)
  refine RegE.takeL (i:=0) (v:=?vv0) hB rfl (by decide) (by kernel_rfl) (by kernel_rfl) (fun _ _ _ h=>h) (Or.inl ⟨by rfl, ?yv0⟩) hHeld ?rv0
  case yv0=>((intro w hSw;(try dsimp only at hSw);go_simp)<;>with_reducible rfl)
  (try simp only [Act.put,List.setIfInBounds_toArray,List.set_cons_zero,List.set_cons_succ])
  refine RegE.takeL (i:=1) (v:=?vv1) hB rfl (by decide) (by kernel_rfl) (by kernel_rfl) (fun _ _ _ h=>h) (Or.inl ⟨by rfl, ?yv1⟩) hHeld ?rv1
  case yv1=>((intro w hSw;(try dsimp only at hSw);go_simp)<;>with_reducible rfl)
  (try simp only [Act.put,List.setIfInBounds_toArray,List.set_cons_zero,List.set_cons_succ])
  refine RegE.takeL (i:=2) (v:=?vv2) hB rfl (by decide) (by kernel_rfl) (by kernel_rfl) (fun _ _ _ h=>h) (Or.inl ⟨by rfl, ?yv2⟩) hHeld ?rv2
  case yv2=>((intro w hSw;(try dsimp only at hSw);go_simp)<;>with_reducible rfl)
  (try simp only [Act.put,List.setIfInBounds_toArray,List.set_cons_zero,List.set_cons_succ])
  refine RegE.takeL (i:=3) (v:=?vv3) hB rfl (by decide) (by kernel_rfl) (by kernel_rfl) (fun _ _ _ h=>h) (Or.inl ⟨by rfl, ?yv3⟩) hHeld ?rv3
  case yv3=>((intro w hSw;(try dsimp only at hSw);go_simp)<;>with_reducible rfl)
  (try simp only [Act.put,List.setIfInBounds_toArray,List.set_cons_zero,List.set_cons_succ])
  refine RegE.stepL (i:=4) rfl (by decide) (by kernel_rfl) (fun K hK=>?_)
  go_simp
  go_at_call 106
  refine (HIN.out _).mono ?_
  rintro e w' ⟨rfl,hww⟩
  obtain rfl:=hww.symm
  go_wp2_with fail
  refine hK.out _ _ ?Sv4 (fun hHeldN=>?_)
  case Sv4=>((try dsimp only);exact hHeld)
  clear hK K hHeld
  have hHeld:=hHeldN
  clear hHeldN
  (try simp only [Act.put,List.setIfInBounds_toArray,List.set_cons_zero,List.set_cons_succ])
  refine RegE.takeL (i:=5) (v:=?vv5) hB rfl (by decide) (by kernel_rfl) (by kernel_rfl) (fun _ _ _ h=>h) (Or.inl ⟨by rfl, ?yv5⟩) hHeld ?rv5
  case yv5=>((intro w hSw;(try dsimp only at hSw);go_simp)<;>with_reducible rfl)
  (try simp only [Act.put,List.setIfInBounds_toArray,List.set_cons_zero,List.set_cons_succ])
  refine RegE.takeL (i:=6) (v:=?vv6) hB rfl (by decide) (by kernel_rfl) (by kernel_rfl) (fun _ _ _ h=>h) (Or.inl ⟨by rfl, ?yv6⟩) hHeld ?rv6
  case yv6=>((intro w hSw;(try dsimp only at hSw);go_simp)<;>with_reducible rfl)
  (try simp only [Act.put,List.setIfInBounds_toArray,List.set_cons_zero,List.set_cons_succ])
  refine RegE.takeL (i:=7) (v:=undef) hB rfl (by decide) (by kernel_rfl) (by kernel_rfl) (fun _ _ _ h=>h) (Or.inr ⟨by rfl,rfl⟩) hHeld ?rv7
  (try simp only [Act.put,List.setIfInBounds_toArray,List.set_cons_zero,List.set_cons_succ])
  refine RegE.takeL (i:=8) (v:=undef) hB rfl (by decide) (by kernel_rfl) (by kernel_rfl) (fun _ _ _ h=>h) (Or.inr ⟨by rfl,rfl⟩) hHeld ?rv8
  (try simp only [Act.put,List.setIfInBounds_toArray,List.set_cons_zero,List.set_cons_succ])
  refine RegE.takeL (i:=9) (v:=undef) hB rfl (by decide) (by kernel_rfl) (by kernel_rfl) (fun _ _ _ h=>h) (Or.inr ⟨by rfl,rfl⟩) hHeld ?rv9
  (try simp only [Act.put,List.setIfInBounds_toArray,List.set_cons_zero,List.set_cons_succ])
  refine RegE.takeL (i:=10) (v:=undef) hB rfl (by decide) (by kernel_rfl) (by kernel_rfl) (fun _ _ _ h=>h) (Or.inr ⟨by rfl,rfl⟩) hHeld ?rv10
  (try simp only [Act.put,List.setIfInBounds_toArray,List.set_cons_zero,List.set_cons_succ])
  refine RegE.takeL (i:=11) (v:=undef) hB rfl (by decide) (by kernel_rfl) (by kernel_rfl) (fun _ _ _ h=>h) (Or.inr ⟨by rfl,rfl⟩) hHeld ?rv11
  (try simp only [Act.put,List.setIfInBounds_toArray,List.set_cons_zero,List.set_cons_succ])
  refine RegE.takeL (i:=12) (v:=undef) hB rfl (by decide) (by kernel_rfl) (by kernel_rfl) (fun _ _ _ h=>h) (Or.inr ⟨by rfl,rfl⟩) hHeld ?rv12
  (try simp only [Act.put,List.setIfInBounds_toArray,List.set_cons_zero,List.set_cons_succ])
  refine RegE.takeL (i:=13) (v:=undef) hB rfl (by decide) (by kernel_rfl) (by kernel_rfl) (fun _ _ _ h=>h) (Or.inr ⟨by rfl,rfl⟩) hHeld ?rv13
  (try simp only [Act.put,List.setIfInBounds_toArray,List.set_cons_zero,List.set_cons_succ])
  refine RegE.takeL (i:=14) (v:=undef) hB rfl (by decide) (by kernel_rfl) (by kernel_rfl) (fun _ _ _ h=>h) (Or.inr ⟨by rfl,rfl⟩) hHeld ?rv14
  (try simp only [Act.put,List.setIfInBounds_toArray,List.set_cons_zero,List.set_cons_succ])
  refine RegE.takeL (i:=15) (v:=undef) hB rfl (by decide) (by kernel_rfl) (by kernel_rfl) (fun _ _ _ h=>h) (Or.inr ⟨by rfl,rfl⟩) hHeld ?rv15
  (try simp only [Act.put,List.setIfInBounds_toArray,List.set_cons_zero,List.set_cons_succ])
  refine RegE.takeL (i:=16) (v:=?vv16) hB rfl (by decide) (by kernel_rfl) (by kernel_rfl) (fun _ _ _ h=>h) (Or.inl ⟨by rfl, ?yv16⟩) hHeld ?rv16
  case yv16=>((intro w hSw;(try dsimp only at hSw);go_simp)<;>with_reducible rfl)
  (try simp only [Act.put,List.setIfInBounds_toArray,List.set_cons_zero,List.set_cons_succ])
  refine RegE.takeL (i:=17) (v:=?vv17) hB rfl (by decide) (by kernel_rfl) (by kernel_rfl) (fun _ _ _ h=>h) (Or.inl ⟨by rfl, ?yv17⟩) hHeld ?rv17
  case yv17=>((intro w hSw;(try dsimp only at hSw);go_simp)<;>with_reducible rfl)
  (try simp only [Act.put,List.setIfInBounds_toArray,List.set_cons_zero,List.set_cons_succ])
  refine RegE.takeL (i:=18) (v:=undef) hB rfl (by decide) (by kernel_rfl) (by kernel_rfl) (fun _ _ _ h=>h) (Or.inr ⟨by rfl,rfl⟩) hHeld ?rv18
  (try simp only [Act.put,List.setIfInBounds_toArray,List.set_cons_zero,List.set_cons_succ])
  refine RegE.takeL (i:=19) (v:=undef) hB rfl (by decide) (by kernel_rfl) (by kernel_rfl) (fun _ _ _ h=>h) (Or.inr ⟨by rfl,rfl⟩) hHeld ?rv19
  (try simp only [Act.put,List.setIfInBounds_toArray,List.set_cons_zero,List.set_cons_succ])
  refine RegE.takeL (i:=20) (v:=undef) hB rfl (by decide) (by kernel_rfl) (by kernel_rfl) (fun _ _ _ h=>h) (Or.inr ⟨by rfl,rfl⟩) hHeld ?rv20
  (try simp only [Act.put,List.setIfInBounds_toArray,List.set_cons_zero,List.set_cons_succ])
  refine RegE.takeL (i:=21) (v:=undef) hB rfl (by decide) (by kernel_rfl) (by kernel_rfl) (fun _ _ _ h=>h) (Or.inr ⟨by rfl,rfl⟩) hHeld ?rv21
  (try simp only [Act.put,List.setIfInBounds_toArray,List.set_cons_zero,List.set_cons_succ])
  refine RegE.takeL (i:=22) (v:=undef) hB rfl (by decide) (by kernel_rfl) (by kernel_rfl) (fun _ _ _ h=>h) (Or.inr ⟨by rfl,rfl⟩) hHeld ?rv22
  (try simp only [Act.put,List.setIfInBounds_toArray,List.set_cons_zero,List.set_cons_succ])
  refine RegE.takeL (i:=23) (v:=undef) hB rfl (by decide) (by kernel_rfl) (by kernel_rfl) (fun _ _ _ h=>h) (Or.inr ⟨by rfl,rfl⟩) hHeld ?rv23
  (try simp only [Act.put,List.setIfInBounds_toArray,List.set_cons_zero,List.set_cons_succ])
  refine RegE.takeL (i:=24) (v:=undef) hB rfl (by decide) (by kernel_rfl) (by kernel_rfl) (fun _ _ _ h=>h) (Or.inr ⟨by rfl,rfl⟩) hHeld ?rv24
  (try simp only [Act.put,List.setIfInBounds_toArray,List.set_cons_zero,List.set_cons_succ])
  refine RegE.takeL (i:=25) (v:=undef) hB rfl (by decide) (by kernel_rfl) (by kernel_rfl) (fun _ _ _ h=>h) (Or.inr ⟨by rfl,rfl⟩) hHeld ?rv25
  (try simp only [Act.put,List.setIfInBounds_toArray,List.set_cons_zero,List.set_cons_succ])
  refine RegE.takeL (i:=26) (v:=undef) hB rfl (by decide) (by kernel_rfl) (by kernel_rfl) (fun _ _ _ h=>h) (Or.inr ⟨by rfl,rfl⟩) hHeld ?rv26
  (try simp only [Act.put,List.setIfInBounds_toArray,List.set_cons_zero,List.set_cons_succ])
  refine RegE.takeL (i:=27) (v:=?vv27) hB rfl (by decide) (by kernel_rfl) (by kernel_rfl) (fun _ _ _ h=>h) (Or.inl ⟨by rfl, ?yv27⟩) hHeld ?rv27
  case yv27=>((intro w hSw;(try dsimp only at hSw);go_simp)<;>with_reducible rfl)
  (try simp only [Act.put,List.setIfInBounds_toArray,List.set_cons_zero,List.set_cons_succ])
  refine RegE.takeL (i:=28) (v:=?vv28) hB rfl (by decide) (by kernel_rfl) (by kernel_rfl) (fun _ _ _ h=>h) (Or.inl ⟨by rfl, ?yv28⟩) hHeld ?rv28
  case yv28=>((intro w hSw;(try dsimp only at hSw);go_simp)<;>with_reducible rfl)
  (try simp only [Act.put,List.setIfInBounds_toArray,List.set_cons_zero,List.set_cons_succ])
  refine RegE.takeL (i:=29) (v:=undef) hB rfl (by decide) (by kernel_rfl) (by kernel_rfl) (fun _ _ _ h=>h) (Or.inr ⟨by rfl,rfl⟩) hHeld ?rv29
  (try simp only [Act.put,List.setIfInBounds_toArray,List.set_cons_zero,List.set_cons_succ])
  refine RegE.takeL (i:=30) (v:=undef) hB rfl (by decide) (by kernel_rfl) (by kernel_rfl) (fun _ _ _ h=>h) (Or.inr ⟨by rfl,rfl⟩) hHeld ?rv30
  (try simp only [Act.put,List.setIfInBounds_toArray,List.set_cons_zero,List.set_cons_succ])
  refine RegE.takeL (i:=31) (v:=undef) hB rfl (by decide) (by kernel_rfl) (by kernel_rfl) (fun _ _ _ h=>h) (Or.inr ⟨by rfl,rfl⟩) hHeld ?rv31
  (try simp only [Act.put,List.setIfInBounds_toArray,List.set_cons_zero,List.set_cons_succ])
  refine RegE.takeL (i:=32) (v:=undef) hB rfl (by decide) (by kernel_rfl) (by kernel_rfl) (fun _ _ _ h=>h) (Or.inr ⟨by rfl,rfl⟩) hHeld ?rv32
  (try simp only [Act.put,List.setIfInBounds_toArray,List.set_cons_zero,List.set_cons_succ])
  refine RegE.takeL (i:=33) (v:=undef) hB rfl (by decide) (by kernel_rfl) (by kernel_rfl) (fun _ _ _ h=>h) (Or.inr ⟨by rfl,rfl⟩) hHeld ?rv33
  (try simp only [Act.put,List.setIfInBounds_toArray,List.set_cons_zero,List.set_cons_succ])
  refine RegE.takeL (i:=34) (v:=undef) hB rfl (by decide) (by kernel_rfl) (by kernel_rfl) (fun _ _ _ h=>h) (Or.inr ⟨by rfl,rfl⟩) hHeld ?rv34
  (try simp only [Act.put,List.setIfInBounds_toArray,List.set_cons_zero,List.set_cons_succ])
  refine RegE.lastL rfl (by kernel_rfl) (by kernel_rfl) (fun K hK=>?_)
  go_simp
  refine hK.out _ _ ?_
  clear hK K
  go_wp2
  go_ret
  exact ⟨rfl,(Below.refl _ _).drew⟩
 case true=>
 rw [hin] at HIN
 cases hsl:sideOk l v
 case false=>
  have HV:Hid (ruleOk v l r=false):=by show _=_;unfold ruleOk;rw [hin,hsl];rfl
  rw [HV.out]
  rw [hsl] at HL
  clear hin hsl
  go_enter Tryz.func57,Tryz.ntmps57
  go_wp2_with fail
  refine RegE.start (S:=(fun wx=>wx.cell? ⟨b,o,none⟩=some (.int .i64 v)∧wx.cell? ⟨b,o+1,none⟩=some (.int .i64 l.k))) 35 (by kernel_rfl) (by kernel_rfl) ?Sl0 (fun hHeld hB=>?_)
  case Sl0=>((try dsimp only);exact HS0.out)
  refine RegE.takeL (i:=0) (v:=?vl0) hB rfl (by decide) (by kernel_rfl) (by kernel_rfl) (fun _ _ _ h=>h) (Or.inl ⟨by rfl, ?yl0⟩) hHeld ?rl0
  case yl0=>((intro w hSw;(try dsimp only at hSw);go_simp)<;>with_reducible rfl)
  (try simp only [Act.put,List.setIfInBounds_toArray,List.set_cons_zero,List.set_cons_succ])
  refine RegE.takeL (i:=1) (v:=?vl1) hB rfl (by decide) (by kernel_rfl) (by kernel_rfl) (fun _ _ _ h=>h) (Or.inl ⟨by rfl, ?yl1⟩) hHeld ?rl1
  case yl1=>((intro w hSw;(try dsimp only at hSw);go_simp)<;>with_reducible rfl)
  (try simp only [Act.put,List.setIfInBounds_toArray,List.set_cons_zero,List.set_cons_succ])
  refine RegE.takeL (i:=2) (v:=?vl2) hB rfl (by decide) (by kernel_rfl) (by kernel_rfl) (fun _ _ _ h=>h) (Or.inl ⟨by rfl, ?yl2⟩) hHeld ?rl2
  case yl2=>((intro w hSw;(try dsimp only at hSw);go_simp)<;>with_reducible rfl)
  (try simp only [Act.put,List.setIfInBounds_toArray,List.set_cons_zero,List.set_cons_succ])
  refine RegE.takeL (i:=3) (v:=?vl3) hB rfl (by decide) (by kernel_rfl) (by kernel_rfl) (fun _ _ _ h=>h) (Or.inl ⟨by rfl, ?yl3⟩) hHeld ?rl3
  case yl3=>((intro w hSw;(try dsimp only at hSw);go_simp)<;>with_reducible rfl)
  (try simp only [Act.put,List.setIfInBounds_toArray,List.set_cons_zero,List.set_cons_succ])
  refine RegE.stepL (i:=4) rfl (by decide) (by kernel_rfl) (fun K hK=>?_)
  go_simp
  go_at_call 106
  refine (HIN.out _).mono ?_
  rintro e w' ⟨rfl,hww⟩
  obtain rfl:=hww.symm
  go_wp2_with fail
  refine hK.out _ _ ?Sl4 (fun hHeldN=>?_)
  case Sl4=>((try dsimp only);exact hHeld)
  clear hK K hHeld
  have hHeld:=hHeldN
  clear hHeldN
  (try simp only [Act.put,List.setIfInBounds_toArray,List.set_cons_zero,List.set_cons_succ])
  refine RegE.takeL (i:=5) (v:=?vl5) hB rfl (by decide) (by kernel_rfl) (by kernel_rfl) (fun _ _ _ h=>h) (Or.inl ⟨by rfl, ?yl5⟩) hHeld ?rl5
  case yl5=>((intro w hSw;(try dsimp only at hSw);go_simp)<;>with_reducible rfl)
  (try simp only [Act.put,List.setIfInBounds_toArray,List.set_cons_zero,List.set_cons_succ])
  refine RegE.takeL (i:=6) (v:=?vl6) hB rfl (by decide) (by kernel_rfl) (by kernel_rfl) (fun _ _ _ h=>h) (Or.inl ⟨by rfl, ?yl6⟩) hHeld ?rl6
  case yl6=>((intro w hSw;(try dsimp only at hSw);go_simp)<;>with_reducible rfl)
  (try simp only [Act.put,List.setIfInBounds_toArray,List.set_cons_zero,List.set_cons_succ])
  refine RegE.takeL (i:=7) (v:=?vl7) hB rfl (by decide) (by kernel_rfl) (by kernel_rfl) (fun _ _ _ h=>h) (Or.inl ⟨by rfl, ?yl7⟩) hHeld ?rl7
  case yl7=>((intro w hSw;(try dsimp only at hSw);go_simp)<;>with_reducible rfl)
  (try simp only [Act.put,List.setIfInBounds_toArray,List.set_cons_zero,List.set_cons_succ])
  refine RegE.takeL (i:=8) (v:=?vl8) hB rfl (by decide) (by kernel_rfl) (by kernel_rfl) (fun _ _ _ h=>h) (Or.inl ⟨by rfl, ?yl8⟩) hHeld ?rl8
  case yl8=>((intro w hSw;(try dsimp only at hSw);go_simp)<;>with_reducible rfl)
  (try simp only [Act.put,List.setIfInBounds_toArray,List.set_cons_zero,List.set_cons_succ])
  refine RegE.takeL (i:=9) (v:=?vl9) hB rfl (by decide) (by kernel_rfl) (by kernel_rfl) (fun _ _ _ h=>h) (Or.inl ⟨by rfl, ?yl9⟩) hHeld ?rl9
  case yl9=>((intro w hSw;(try dsimp only at hSw);go_simp)<;>with_reducible rfl)
  (try simp only [Act.put,List.setIfInBounds_toArray,List.set_cons_zero,List.set_cons_succ])
  refine RegE.takeL (i:=10) (v:=?vl10) hB rfl (by decide) (by kernel_rfl) (by kernel_rfl) (fun _ _ _ h=>h) (Or.inl ⟨by rfl, ?yl10⟩) hHeld ?rl10
  case yl10=>((intro w hSw;(try dsimp only at hSw);go_simp)<;>with_reducible rfl)
  (try simp only [Act.put,List.setIfInBounds_toArray,List.set_cons_zero,List.set_cons_succ])
  refine RegE.takeL (i:=11) (v:=?vl11) hB rfl (by decide) (by kernel_rfl) (by kernel_rfl) (fun _ _ _ h=>h) (Or.inl ⟨by rfl, ?yl11⟩) hHeld ?rl11
  case yl11=>((intro w hSw;(try dsimp only at hSw);go_simp)<;>with_reducible rfl)
  (try simp only [Act.put,List.setIfInBounds_toArray,List.set_cons_zero,List.set_cons_succ])
  refine RegE.takeL (i:=12) (v:=?vl12) hB rfl (by decide) (by kernel_rfl) (by kernel_rfl) (fun _ _ _ h=>h) (Or.inl ⟨by rfl, ?yl12⟩) hHeld ?rl12
  case yl12=>((intro w hSw;(try dsimp only at hSw);go_simp)<;>with_reducible rfl)
  (try simp only [Act.put,List.setIfInBounds_toArray,List.set_cons_zero,List.set_cons_succ])
  refine RegE.takeL (i:=13) (v:=?vl13) hB rfl (by decide) (by kernel_rfl) (by kernel_rfl) (fun _ _ _ h=>h) (Or.inl ⟨by rfl, ?yl13⟩) hHeld ?rl13
  case yl13=>((intro w hSw;(try dsimp only at hSw);go_simp)<;>with_reducible rfl)
  (try simp only [Act.put,List.setIfInBounds_toArray,List.set_cons_zero,List.set_cons_succ])
  refine RegE.stepL (i:=14) rfl (by decide) (by kernel_rfl) (fun K hK=>?_)
  go_simp
  go_at_call 120
  refine (HL.out _ (Below.refl _ _).drew).mono ?_
  rintro e wHL ⟨rfl,hbHL⟩
  have HBHL:=hid (bnext (Below.refl _ _).drew hbHL)
  go_wp2_with fail
  refine hK.out _ _ ?Sl14 (fun hHeldN=>?_)
  case Sl14=>((try dsimp only);exact ⟨keepC HS1.out.1 HBHL.out,keepC HS1.out.2 HBHL.out⟩)
  clear hK K hHeld
  have hHeld:=hHeldN
  clear hHeldN
  (try simp only [Act.put,List.setIfInBounds_toArray,List.set_cons_zero,List.set_cons_succ])
  refine RegE.takeL (i:=15) (v:=?vl15) hB rfl (by decide) (by kernel_rfl) (by kernel_rfl) (fun _ _ _ h=>h) (Or.inl ⟨by rfl, ?yl15⟩) hHeld ?rl15
  case yl15=>((intro w hSw;(try dsimp only at hSw);go_simp)<;>with_reducible rfl)
  (try simp only [Act.put,List.setIfInBounds_toArray,List.set_cons_zero,List.set_cons_succ])
  refine RegE.takeL (i:=16) (v:=?vl16) hB rfl (by decide) (by kernel_rfl) (by kernel_rfl) (fun _ _ _ h=>h) (Or.inl ⟨by rfl, ?yl16⟩) hHeld ?rl16
  case yl16=>((intro w hSw;(try dsimp only at hSw);go_simp)<;>with_reducible rfl)
  (try simp only [Act.put,List.setIfInBounds_toArray,List.set_cons_zero,List.set_cons_succ])
  refine RegE.takeL (i:=17) (v:=?vl17) hB rfl (by decide) (by kernel_rfl) (by kernel_rfl) (fun _ _ _ h=>h) (Or.inl ⟨by rfl, ?yl17⟩) hHeld ?rl17
  case yl17=>((intro w hSw;(try dsimp only at hSw);go_simp)<;>with_reducible rfl)
  (try simp only [Act.put,List.setIfInBounds_toArray,List.set_cons_zero,List.set_cons_succ])
  refine RegE.takeL (i:=18) (v:=undef) hB rfl (by decide) (by kernel_rfl) (by kernel_rfl) (fun _ _ _ h=>h) (Or.inr ⟨by rfl,rfl⟩) hHeld ?rl18
  (try simp only [Act.put,List.setIfInBounds_toArray,List.set_cons_zero,List.set_cons_succ])
  refine RegE.takeL (i:=19) (v:=undef) hB rfl (by decide) (by kernel_rfl) (by kernel_rfl) (fun _ _ _ h=>h) (Or.inr ⟨by rfl,rfl⟩) hHeld ?rl19
  (try simp only [Act.put,List.setIfInBounds_toArray,List.set_cons_zero,List.set_cons_succ])
  refine RegE.takeL (i:=20) (v:=undef) hB rfl (by decide) (by kernel_rfl) (by kernel_rfl) (fun _ _ _ h=>h) (Or.inr ⟨by rfl,rfl⟩) hHeld ?rl20
  (try simp only [Act.put,List.setIfInBounds_toArray,List.set_cons_zero,List.set_cons_succ])
  refine RegE.takeL (i:=21) (v:=undef) hB rfl (by decide) (by kernel_rfl) (by kernel_rfl) (fun _ _ _ h=>h) (Or.inr ⟨by rfl,rfl⟩) hHeld ?rl21
  (try simp only [Act.put,List.setIfInBounds_toArray,List.set_cons_zero,List.set_cons_succ])
  refine RegE.takeL (i:=22) (v:=undef) hB rfl (by decide) (by kernel_rfl) (by kernel_rfl) (fun _ _ _ h=>h) (Or.inr ⟨by rfl,rfl⟩) hHeld ?rl22
  (try simp only [Act.put,List.setIfInBounds_toArray,List.set_cons_zero,List.set_cons_succ])
  refine RegE.takeL (i:=23) (v:=undef) hB rfl (by decide) (by kernel_rfl) (by kernel_rfl) (fun _ _ _ h=>h) (Or.inr ⟨by rfl,rfl⟩) hHeld ?rl23
  (try simp only [Act.put,List.setIfInBounds_toArray,List.set_cons_zero,List.set_cons_succ])
  refine RegE.takeL (i:=24) (v:=undef) hB rfl (by decide) (by kernel_rfl) (by kernel_rfl) (fun _ _ _ h=>h) (Or.inr ⟨by rfl,rfl⟩) hHeld ?rl24
  (try simp only [Act.put,List.setIfInBounds_toArray,List.set_cons_zero,List.set_cons_succ])
  refine RegE.takeL (i:=25) (v:=undef) hB rfl (by decide) (by kernel_rfl) (by kernel_rfl) (fun _ _ _ h=>h) (Or.inr ⟨by rfl,rfl⟩) hHeld ?rl25
  (try simp only [Act.put,List.setIfInBounds_toArray,List.set_cons_zero,List.set_cons_succ])
  refine RegE.takeL (i:=26) (v:=undef) hB rfl (by decide) (by kernel_rfl) (by kernel_rfl) (fun _ _ _ h=>h) (Or.inr ⟨by rfl,rfl⟩) hHeld ?rl26
  (try simp only [Act.put,List.setIfInBounds_toArray,List.set_cons_zero,List.set_cons_succ])
  refine RegE.takeL (i:=27) (v:=?vl27) hB rfl (by decide) (by kernel_rfl) (by kernel_rfl) (fun _ _ _ h=>h) (Or.inl ⟨by rfl, ?yl27⟩) hHeld ?rl27
  case yl27=>((intro w hSw;(try dsimp only at hSw);go_simp)<;>with_reducible rfl)
  (try simp only [Act.put,List.setIfInBounds_toArray,List.set_cons_zero,List.set_cons_succ])
  refine RegE.takeL (i:=28) (v:=?vl28) hB rfl (by decide) (by kernel_rfl) (by kernel_rfl) (fun _ _ _ h=>h) (Or.inl ⟨by rfl, ?yl28⟩) hHeld ?rl28
  case yl28=>((intro w hSw;(try dsimp only at hSw);go_simp)<;>with_reducible rfl)
  (try simp only [Act.put,List.setIfInBounds_toArray,List.set_cons_zero,List.set_cons_succ])
  refine RegE.takeL (i:=29) (v:=undef) hB rfl (by decide) (by kernel_rfl) (by kernel_rfl) (fun _ _ _ h=>h) (Or.inr ⟨by rfl,rfl⟩) hHeld ?rl29
  (try simp only [Act.put,List.setIfInBounds_toArray,List.set_cons_zero,List.set_cons_succ])
  refine RegE.takeL (i:=30) (v:=undef) hB rfl (by decide) (by kernel_rfl) (by kernel_rfl) (fun _ _ _ h=>h) (Or.inr ⟨by rfl,rfl⟩) hHeld ?rl30
  (try simp only [Act.put,List.setIfInBounds_toArray,List.set_cons_zero,List.set_cons_succ])
  refine RegE.takeL (i:=31) (v:=undef) hB rfl (by decide) (by kernel_rfl) (by kernel_rfl) (fun _ _ _ h=>h) (Or.inr ⟨by rfl,rfl⟩) hHeld ?rl31
  (try simp only [Act.put,List.setIfInBounds_toArray,List.set_cons_zero,List.set_cons_succ])
  refine RegE.takeL (i:=32) (v:=undef) hB rfl (by decide) (by kernel_rfl) (by kernel_rfl) (fun _ _ _ h=>h) (Or.inr ⟨by rfl,rfl⟩) hHeld ?rl32
  (try simp only [Act.put,List.setIfInBounds_toArray,List.set_cons_zero,List.set_cons_succ])
  refine RegE.takeL (i:=33) (v:=undef) hB rfl (by decide) (by kernel_rfl) (by kernel_rfl) (fun _ _ _ h=>h) (Or.inr ⟨by rfl,rfl⟩) hHeld ?rl33
  (try simp only [Act.put,List.setIfInBounds_toArray,List.set_cons_zero,List.set_cons_succ])
  refine RegE.takeL (i:=34) (v:=undef) hB rfl (by decide) (by kernel_rfl) (by kernel_rfl) (fun _ _ _ h=>h) (Or.inr ⟨by rfl,rfl⟩) hHeld ?rl34
  (try simp only [Act.put,List.setIfInBounds_toArray,List.set_cons_zero,List.set_cons_succ])
  refine RegE.lastL rfl (by kernel_rfl) (by kernel_rfl) (fun K hK=>?_)
  go_simp
  refine hK.out _ _ ?_
  clear hK K
  go_wp2
  go_ret
  exact ⟨rfl,HBHL.out⟩
 case true=>
 rw [hsl] at HL
 cases hsr:sideOk r v
 case false=>
  have HV:Hid (ruleOk v l r=false):=by show _=_;unfold ruleOk;rw [hin,hsl,hsr];rfl
  rw [HV.out]
  rw [hsr] at HR
  clear hin hsl hsr
  go_enter Tryz.func57,Tryz.ntmps57
  go_wp2_with fail
  refine RegE.start (S:=(fun wx=>wx.cell? ⟨b,o,none⟩=some (.int .i64 v)∧wx.cell? ⟨b,o+1,none⟩=some (.int .i64 l.k))) 35 (by kernel_rfl) (by kernel_rfl) ?Sr0 (fun hHeld hB=>?_)
  case Sr0=>((try dsimp only);exact HS0.out)
  refine RegE.takeL (i:=0) (v:=?vr0) hB rfl (by decide) (by kernel_rfl) (by kernel_rfl) (fun _ _ _ h=>h) (Or.inl ⟨by rfl, ?yr0⟩) hHeld ?rr0
  case yr0=>((intro w hSw;(try dsimp only at hSw);go_simp)<;>with_reducible rfl)
  (try simp only [Act.put,List.setIfInBounds_toArray,List.set_cons_zero,List.set_cons_succ])
  refine RegE.takeL (i:=1) (v:=?vr1) hB rfl (by decide) (by kernel_rfl) (by kernel_rfl) (fun _ _ _ h=>h) (Or.inl ⟨by rfl, ?yr1⟩) hHeld ?rr1
  case yr1=>((intro w hSw;(try dsimp only at hSw);go_simp)<;>with_reducible rfl)
  (try simp only [Act.put,List.setIfInBounds_toArray,List.set_cons_zero,List.set_cons_succ])
  refine RegE.takeL (i:=2) (v:=?vr2) hB rfl (by decide) (by kernel_rfl) (by kernel_rfl) (fun _ _ _ h=>h) (Or.inl ⟨by rfl, ?yr2⟩) hHeld ?rr2
  case yr2=>((intro w hSw;(try dsimp only at hSw);go_simp)<;>with_reducible rfl)
  (try simp only [Act.put,List.setIfInBounds_toArray,List.set_cons_zero,List.set_cons_succ])
  refine RegE.takeL (i:=3) (v:=?vr3) hB rfl (by decide) (by kernel_rfl) (by kernel_rfl) (fun _ _ _ h=>h) (Or.inl ⟨by rfl, ?yr3⟩) hHeld ?rr3
  case yr3=>((intro w hSw;(try dsimp only at hSw);go_simp)<;>with_reducible rfl)
  (try simp only [Act.put,List.setIfInBounds_toArray,List.set_cons_zero,List.set_cons_succ])
  refine RegE.stepL (i:=4) rfl (by decide) (by kernel_rfl) (fun K hK=>?_)
  go_simp
  go_at_call 106
  refine (HIN.out _).mono ?_
  rintro e w' ⟨rfl,hww⟩
  obtain rfl:=hww.symm
  go_wp2_with fail
  refine hK.out _ _ ?Sr4 (fun hHeldN=>?_)
  case Sr4=>((try dsimp only);exact hHeld)
  clear hK K hHeld
  have hHeld:=hHeldN
  clear hHeldN
  (try simp only [Act.put,List.setIfInBounds_toArray,List.set_cons_zero,List.set_cons_succ])
  refine RegE.takeL (i:=5) (v:=?vr5) hB rfl (by decide) (by kernel_rfl) (by kernel_rfl) (fun _ _ _ h=>h) (Or.inl ⟨by rfl, ?yr5⟩) hHeld ?rr5
  case yr5=>((intro w hSw;(try dsimp only at hSw);go_simp)<;>with_reducible rfl)
  (try simp only [Act.put,List.setIfInBounds_toArray,List.set_cons_zero,List.set_cons_succ])
  refine RegE.takeL (i:=6) (v:=?vr6) hB rfl (by decide) (by kernel_rfl) (by kernel_rfl) (fun _ _ _ h=>h) (Or.inl ⟨by rfl, ?yr6⟩) hHeld ?rr6
  case yr6=>((intro w hSw;(try dsimp only at hSw);go_simp)<;>with_reducible rfl)
  (try simp only [Act.put,List.setIfInBounds_toArray,List.set_cons_zero,List.set_cons_succ])
  refine RegE.takeL (i:=7) (v:=?vr7) hB rfl (by decide) (by kernel_rfl) (by kernel_rfl) (fun _ _ _ h=>h) (Or.inl ⟨by rfl, ?yr7⟩) hHeld ?rr7
  case yr7=>((intro w hSw;(try dsimp only at hSw);go_simp)<;>with_reducible rfl)
  (try simp only [Act.put,List.setIfInBounds_toArray,List.set_cons_zero,List.set_cons_succ])
  refine RegE.takeL (i:=8) (v:=?vr8) hB rfl (by decide) (by kernel_rfl) (by kernel_rfl) (fun _ _ _ h=>h) (Or.inl ⟨by rfl, ?yr8⟩) hHeld ?rr8
  case yr8=>((intro w hSw;(try dsimp only at hSw);go_simp)<;>with_reducible rfl)
  (try simp only [Act.put,List.setIfInBounds_toArray,List.set_cons_zero,List.set_cons_succ])
  refine RegE.takeL (i:=9) (v:=?vr9) hB rfl (by decide) (by kernel_rfl) (by kernel_rfl) (fun _ _ _ h=>h) (Or.inl ⟨by rfl, ?yr9⟩) hHeld ?rr9
  case yr9=>((intro w hSw;(try dsimp only at hSw);go_simp)<;>with_reducible rfl)
  (try simp only [Act.put,List.setIfInBounds_toArray,List.set_cons_zero,List.set_cons_succ])
  refine RegE.takeL (i:=10) (v:=?vr10) hB rfl (by decide) (by kernel_rfl) (by kernel_rfl) (fun _ _ _ h=>h) (Or.inl ⟨by rfl, ?yr10⟩) hHeld ?rr10
  case yr10=>((intro w hSw;(try dsimp only at hSw);go_simp)<;>with_reducible rfl)
  (try simp only [Act.put,List.setIfInBounds_toArray,List.set_cons_zero,List.set_cons_succ])
  refine RegE.takeL (i:=11) (v:=?vr11) hB rfl (by decide) (by kernel_rfl) (by kernel_rfl) (fun _ _ _ h=>h) (Or.inl ⟨by rfl, ?yr11⟩) hHeld ?rr11
  case yr11=>((intro w hSw;(try dsimp only at hSw);go_simp)<;>with_reducible rfl)
  (try simp only [Act.put,List.setIfInBounds_toArray,List.set_cons_zero,List.set_cons_succ])
  refine RegE.takeL (i:=12) (v:=?vr12) hB rfl (by decide) (by kernel_rfl) (by kernel_rfl) (fun _ _ _ h=>h) (Or.inl ⟨by rfl, ?yr12⟩) hHeld ?rr12
  case yr12=>((intro w hSw;(try dsimp only at hSw);go_simp)<;>with_reducible rfl)
  (try simp only [Act.put,List.setIfInBounds_toArray,List.set_cons_zero,List.set_cons_succ])
  refine RegE.takeL (i:=13) (v:=?vr13) hB rfl (by decide) (by kernel_rfl) (by kernel_rfl) (fun _ _ _ h=>h) (Or.inl ⟨by rfl, ?yr13⟩) hHeld ?rr13
  case yr13=>((intro w hSw;(try dsimp only at hSw);go_simp)<;>with_reducible rfl)
  (try simp only [Act.put,List.setIfInBounds_toArray,List.set_cons_zero,List.set_cons_succ])
  refine RegE.stepL (i:=14) rfl (by decide) (by kernel_rfl) (fun K hK=>?_)
  go_simp
  go_at_call 120
  refine (HL.out _ (Below.refl _ _).drew).mono ?_
  rintro e wHL ⟨rfl,hbHL⟩
  have HBHL:=hid (bnext (Below.refl _ _).drew hbHL)
  go_wp2_with fail
  refine hK.out _ _ ?Sr14 (fun hHeldN=>?_)
  case Sr14=>((try dsimp only);exact ⟨keepC HS1.out.1 HBHL.out,keepC HS1.out.2 HBHL.out⟩)
  clear hK K hHeld
  have hHeld:=hHeldN
  clear hHeldN
  (try simp only [Act.put,List.setIfInBounds_toArray,List.set_cons_zero,List.set_cons_succ])
  refine RegE.takeL (i:=15) (v:=?vr15) hB rfl (by decide) (by kernel_rfl) (by kernel_rfl) (fun _ _ _ h=>h) (Or.inl ⟨by rfl, ?yr15⟩) hHeld ?rr15
  case yr15=>((intro w hSw;(try dsimp only at hSw);go_simp)<;>with_reducible rfl)
  (try simp only [Act.put,List.setIfInBounds_toArray,List.set_cons_zero,List.set_cons_succ])
  refine RegE.takeL (i:=16) (v:=?vr16) hB rfl (by decide) (by kernel_rfl) (by kernel_rfl) (fun _ _ _ h=>h) (Or.inl ⟨by rfl, ?yr16⟩) hHeld ?rr16
  case yr16=>((intro w hSw;(try dsimp only at hSw);go_simp)<;>with_reducible rfl)
  (try simp only [Act.put,List.setIfInBounds_toArray,List.set_cons_zero,List.set_cons_succ])
  refine RegE.takeL (i:=17) (v:=?vr17) hB rfl (by decide) (by kernel_rfl) (by kernel_rfl) (fun _ _ _ h=>h) (Or.inl ⟨by rfl, ?yr17⟩) hHeld ?rr17
  case yr17=>((intro w hSw;(try dsimp only at hSw);go_simp)<;>with_reducible rfl)
  (try simp only [Act.put,List.setIfInBounds_toArray,List.set_cons_zero,List.set_cons_succ])
  refine RegE.takeL (i:=18) (v:=?vr18) hB rfl (by decide) (by kernel_rfl) (by kernel_rfl) (fun _ _ _ h=>h) (Or.inl ⟨by rfl, ?yr18⟩) hHeld ?rr18
  case yr18=>((intro w hSw;(try dsimp only at hSw);go_simp)<;>with_reducible rfl)
  (try simp only [Act.put,List.setIfInBounds_toArray,List.set_cons_zero,List.set_cons_succ])
  refine RegE.takeL (i:=19) (v:=?vr19) hB rfl (by decide) (by kernel_rfl) (by kernel_rfl) (fun _ _ _ h=>h) (Or.inl ⟨by rfl, ?yr19⟩) hHeld ?rr19
  case yr19=>((intro w hSw;(try dsimp only at hSw);go_simp)<;>with_reducible rfl)
  (try simp only [Act.put,List.setIfInBounds_toArray,List.set_cons_zero,List.set_cons_succ])
  refine RegE.takeL (i:=20) (v:=?vr20) hB rfl (by decide) (by kernel_rfl) (by kernel_rfl) (fun _ _ _ h=>h) (Or.inl ⟨by rfl, ?yr20⟩) hHeld ?rr20
  case yr20=>((intro w hSw;(try dsimp only at hSw);go_simp)<;>with_reducible rfl)
  (try simp only [Act.put,List.setIfInBounds_toArray,List.set_cons_zero,List.set_cons_succ])
  refine RegE.takeL (i:=21) (v:=?vr21) hB rfl (by decide) (by kernel_rfl) (by kernel_rfl) (fun _ _ _ h=>h) (Or.inl ⟨by rfl, ?yr21⟩) hHeld ?rr21
  case yr21=>((intro w hSw;(try dsimp only at hSw);go_simp)<;>with_reducible rfl)
  (try simp only [Act.put,List.setIfInBounds_toArray,List.set_cons_zero,List.set_cons_succ])
  refine RegE.takeL (i:=22) (v:=?vr22) hB rfl (by decide) (by kernel_rfl) (by kernel_rfl) (fun _ _ _ h=>h) (Or.inl ⟨by rfl, ?yr22⟩) hHeld ?rr22
  case yr22=>((intro w hSw;(try dsimp only at hSw);go_simp)<;>with_reducible rfl)
  (try simp only [Act.put,List.setIfInBounds_toArray,List.set_cons_zero,List.set_cons_succ])
  refine RegE.takeL (i:=23) (v:=?vr23) hB rfl (by decide) (by kernel_rfl) (by kernel_rfl) (fun _ _ _ h=>h) (Or.inl ⟨by rfl, ?yr23⟩) hHeld ?rr23
  case yr23=>((intro w hSw;(try dsimp only at hSw);go_simp)<;>with_reducible rfl)
  (try simp only [Act.put,List.setIfInBounds_toArray,List.set_cons_zero,List.set_cons_succ])
  refine RegE.takeL (i:=24) (v:=?vr24) hB rfl (by decide) (by kernel_rfl) (by kernel_rfl) (fun _ _ _ h=>h) (Or.inl ⟨by rfl, ?yr24⟩) hHeld ?rr24
  case yr24=>((intro w hSw;(try dsimp only at hSw);go_simp)<;>with_reducible rfl)
  (try simp only [Act.put,List.setIfInBounds_toArray,List.set_cons_zero,List.set_cons_succ])
  refine RegE.stepL (i:=25) rfl (by decide) (by kernel_rfl) (fun K hK=>?_)
  go_simp
  go_at_call 120
  refine (HR.out _ HBHL.out).mono ?_
  rintro e wHR ⟨rfl,hbHR⟩
  have HBHR:=hid (bnext HBHL.out hbHR)
  go_wp2_with fail
  refine hK.out _ _ ?Sr25 (fun hHeldN=>?_)
  case Sr25=>((try dsimp only);exact ⟨keepC HS1.out.1 HBHR.out,keepC HS1.out.2 HBHR.out⟩)
  clear hK K hHeld
  have hHeld:=hHeldN
  clear hHeldN
  (try simp only [Act.put,List.setIfInBounds_toArray,List.set_cons_zero,List.set_cons_succ])
  refine RegE.takeL (i:=26) (v:=?vr26) hB rfl (by decide) (by kernel_rfl) (by kernel_rfl) (fun _ _ _ h=>h) (Or.inl ⟨by rfl, ?yr26⟩) hHeld ?rr26
  case yr26=>((intro w hSw;(try dsimp only at hSw);go_simp)<;>with_reducible rfl)
  (try simp only [Act.put,List.setIfInBounds_toArray,List.set_cons_zero,List.set_cons_succ])
  refine RegE.takeL (i:=27) (v:=?vr27) hB rfl (by decide) (by kernel_rfl) (by kernel_rfl) (fun _ _ _ h=>h) (Or.inl ⟨by rfl, ?yr27⟩) hHeld ?rr27
  case yr27=>((intro w hSw;(try dsimp only at hSw);go_simp)<;>with_reducible rfl)
  (try simp only [Act.put,List.setIfInBounds_toArray,List.set_cons_zero,List.set_cons_succ])
  refine RegE.takeL (i:=28) (v:=?vr28) hB rfl (by decide) (by kernel_rfl) (by kernel_rfl) (fun _ _ _ h=>h) (Or.inl ⟨by rfl, ?yr28⟩) hHeld ?rr28
  case yr28=>((intro w hSw;(try dsimp only at hSw);go_simp)<;>with_reducible rfl)
  (try simp only [Act.put,List.setIfInBounds_toArray,List.set_cons_zero,List.set_cons_succ])
  refine RegE.takeL (i:=29) (v:=undef) hB rfl (by decide) (by kernel_rfl) (by kernel_rfl) (fun _ _ _ h=>h) (Or.inr ⟨by rfl,rfl⟩) hHeld ?rr29
  (try simp only [Act.put,List.setIfInBounds_toArray,List.set_cons_zero,List.set_cons_succ])
  refine RegE.takeL (i:=30) (v:=undef) hB rfl (by decide) (by kernel_rfl) (by kernel_rfl) (fun _ _ _ h=>h) (Or.inr ⟨by rfl,rfl⟩) hHeld ?rr30
  (try simp only [Act.put,List.setIfInBounds_toArray,List.set_cons_zero,List.set_cons_succ])
  refine RegE.takeL (i:=31) (v:=undef) hB rfl (by decide) (by kernel_rfl) (by kernel_rfl) (fun _ _ _ h=>h) (Or.inr ⟨by rfl,rfl⟩) hHeld ?rr31
  (try simp only [Act.put,List.setIfInBounds_toArray,List.set_cons_zero,List.set_cons_succ])
  refine RegE.takeL (i:=32) (v:=undef) hB rfl (by decide) (by kernel_rfl) (by kernel_rfl) (fun _ _ _ h=>h) (Or.inr ⟨by rfl,rfl⟩) hHeld ?rr32
  (try simp only [Act.put,List.setIfInBounds_toArray,List.set_cons_zero,List.set_cons_succ])
  refine RegE.takeL (i:=33) (v:=undef) hB rfl (by decide) (by kernel_rfl) (by kernel_rfl) (fun _ _ _ h=>h) (Or.inr ⟨by rfl,rfl⟩) hHeld ?rr33
  (try simp only [Act.put,List.setIfInBounds_toArray,List.set_cons_zero,List.set_cons_succ])
  refine RegE.takeL (i:=34) (v:=undef) hB rfl (by decide) (by kernel_rfl) (by kernel_rfl) (fun _ _ _ h=>h) (Or.inr ⟨by rfl,rfl⟩) hHeld ?rr34
  (try simp only [Act.put,List.setIfInBounds_toArray,List.set_cons_zero,List.set_cons_succ])
  refine RegE.lastL rfl (by kernel_rfl) (by kernel_rfl) (fun K hK=>?_)
  go_simp
  refine hK.out _ _ ?_
  clear hK K
  go_wp2
  go_ret
  exact ⟨rfl,HBHR.out⟩
 case true=>
 rw [hsr] at HR
 by_cases hk2:l.k=2
 ·have HV:Hid (ruleOk v l r=false):=by show _=_;unfold ruleOk;rw [hin,hsl,hsr,hk2];rfl
  rw [HV.out]
  have hk2b:(l.k==2)=true:=by rw [hk2];rfl
  clear hin hsl hsr hk2
  go_enter Tryz.func57,Tryz.ntmps57
  go_wp2_with fail
  refine RegE.start (S:=(fun wx=>wx.cell? ⟨b,o,none⟩=some (.int .i64 v)∧wx.cell? ⟨b,o+1,none⟩=some (.int .i64 l.k))) 35 (by kernel_rfl) (by kernel_rfl) ?Sk0 (fun hHeld hB=>?_)
  case Sk0=>((try dsimp only);exact HS0.out)
  refine RegE.takeL (i:=0) (v:=?vk0) hB rfl (by decide) (by kernel_rfl) (by kernel_rfl) (fun _ _ _ h=>h) (Or.inl ⟨by rfl, ?yk0⟩) hHeld ?rk0
  case yk0=>((intro w hSw;(try dsimp only at hSw);go_simp)<;>with_reducible rfl)
  (try simp only [Act.put,List.setIfInBounds_toArray,List.set_cons_zero,List.set_cons_succ])
  refine RegE.takeL (i:=1) (v:=?vk1) hB rfl (by decide) (by kernel_rfl) (by kernel_rfl) (fun _ _ _ h=>h) (Or.inl ⟨by rfl, ?yk1⟩) hHeld ?rk1
  case yk1=>((intro w hSw;(try dsimp only at hSw);go_simp)<;>with_reducible rfl)
  (try simp only [Act.put,List.setIfInBounds_toArray,List.set_cons_zero,List.set_cons_succ])
  refine RegE.takeL (i:=2) (v:=?vk2) hB rfl (by decide) (by kernel_rfl) (by kernel_rfl) (fun _ _ _ h=>h) (Or.inl ⟨by rfl, ?yk2⟩) hHeld ?rk2
  case yk2=>((intro w hSw;(try dsimp only at hSw);go_simp)<;>with_reducible rfl)
  (try simp only [Act.put,List.setIfInBounds_toArray,List.set_cons_zero,List.set_cons_succ])
  refine RegE.takeL (i:=3) (v:=?vk3) hB rfl (by decide) (by kernel_rfl) (by kernel_rfl) (fun _ _ _ h=>h) (Or.inl ⟨by rfl, ?yk3⟩) hHeld ?rk3
  case yk3=>((intro w hSw;(try dsimp only at hSw);go_simp)<;>with_reducible rfl)
  (try simp only [Act.put,List.setIfInBounds_toArray,List.set_cons_zero,List.set_cons_succ])
  refine RegE.stepL (i:=4) rfl (by decide) (by kernel_rfl) (fun K hK=>?_)
  go_simp
  go_at_call 106
  refine (HIN.out _).mono ?_
  rintro e w' ⟨rfl,hww⟩
  obtain rfl:=hww.symm
  go_wp2_with fail
  refine hK.out _ _ ?Sk4 (fun hHeldN=>?_)
  case Sk4=>((try dsimp only);exact hHeld)
  clear hK K hHeld
  have hHeld:=hHeldN
  clear hHeldN
  (try simp only [Act.put,List.setIfInBounds_toArray,List.set_cons_zero,List.set_cons_succ])
  refine RegE.takeL (i:=5) (v:=?vk5) hB rfl (by decide) (by kernel_rfl) (by kernel_rfl) (fun _ _ _ h=>h) (Or.inl ⟨by rfl, ?yk5⟩) hHeld ?rk5
  case yk5=>((intro w hSw;(try dsimp only at hSw);go_simp)<;>with_reducible rfl)
  (try simp only [Act.put,List.setIfInBounds_toArray,List.set_cons_zero,List.set_cons_succ])
  refine RegE.takeL (i:=6) (v:=?vk6) hB rfl (by decide) (by kernel_rfl) (by kernel_rfl) (fun _ _ _ h=>h) (Or.inl ⟨by rfl, ?yk6⟩) hHeld ?rk6
  case yk6=>((intro w hSw;(try dsimp only at hSw);go_simp)<;>with_reducible rfl)
  (try simp only [Act.put,List.setIfInBounds_toArray,List.set_cons_zero,List.set_cons_succ])
  refine RegE.takeL (i:=7) (v:=?vk7) hB rfl (by decide) (by kernel_rfl) (by kernel_rfl) (fun _ _ _ h=>h) (Or.inl ⟨by rfl, ?yk7⟩) hHeld ?rk7
  case yk7=>((intro w hSw;(try dsimp only at hSw);go_simp)<;>with_reducible rfl)
  (try simp only [Act.put,List.setIfInBounds_toArray,List.set_cons_zero,List.set_cons_succ])
  refine RegE.takeL (i:=8) (v:=?vk8) hB rfl (by decide) (by kernel_rfl) (by kernel_rfl) (fun _ _ _ h=>h) (Or.inl ⟨by rfl, ?yk8⟩) hHeld ?rk8
  case yk8=>((intro w hSw;(try dsimp only at hSw);go_simp)<;>with_reducible rfl)
  (try simp only [Act.put,List.setIfInBounds_toArray,List.set_cons_zero,List.set_cons_succ])
  refine RegE.takeL (i:=9) (v:=?vk9) hB rfl (by decide) (by kernel_rfl) (by kernel_rfl) (fun _ _ _ h=>h) (Or.inl ⟨by rfl, ?yk9⟩) hHeld ?rk9
  case yk9=>((intro w hSw;(try dsimp only at hSw);go_simp)<;>with_reducible rfl)
  (try simp only [Act.put,List.setIfInBounds_toArray,List.set_cons_zero,List.set_cons_succ])
  refine RegE.takeL (i:=10) (v:=?vk10) hB rfl (by decide) (by kernel_rfl) (by kernel_rfl) (fun _ _ _ h=>h) (Or.inl ⟨by rfl, ?yk10⟩) hHeld ?rk10
  case yk10=>((intro w hSw;(try dsimp only at hSw);go_simp)<;>with_reducible rfl)
  (try simp only [Act.put,List.setIfInBounds_toArray,List.set_cons_zero,List.set_cons_succ])
  refine RegE.takeL (i:=11) (v:=?vk11) hB rfl (by decide) (by kernel_rfl) (by kernel_rfl) (fun _ _ _ h=>h) (Or.inl ⟨by rfl, ?yk11⟩) hHeld ?rk11
  case yk11=>((intro w hSw;(try dsimp only at hSw);go_simp)<;>with_reducible rfl)
  (try simp only [Act.put,List.setIfInBounds_toArray,List.set_cons_zero,List.set_cons_succ])
  refine RegE.takeL (i:=12) (v:=?vk12) hB rfl (by decide) (by kernel_rfl) (by kernel_rfl) (fun _ _ _ h=>h) (Or.inl ⟨by rfl, ?yk12⟩) hHeld ?rk12
  case yk12=>((intro w hSw;(try dsimp only at hSw);go_simp)<;>with_reducible rfl)
  (try simp only [Act.put,List.setIfInBounds_toArray,List.set_cons_zero,List.set_cons_succ])
  refine RegE.takeL (i:=13) (v:=?vk13) hB rfl (by decide) (by kernel_rfl) (by kernel_rfl) (fun _ _ _ h=>h) (Or.inl ⟨by rfl, ?yk13⟩) hHeld ?rk13
  case yk13=>((intro w hSw;(try dsimp only at hSw);go_simp)<;>with_reducible rfl)
  (try simp only [Act.put,List.setIfInBounds_toArray,List.set_cons_zero,List.set_cons_succ])
  refine RegE.stepL (i:=14) rfl (by decide) (by kernel_rfl) (fun K hK=>?_)
  go_simp
  go_at_call 120
  refine (HL.out _ (Below.refl _ _).drew).mono ?_
  rintro e wHL ⟨rfl,hbHL⟩
  have HBHL:=hid (bnext (Below.refl _ _).drew hbHL)
  go_wp2_with fail
  refine hK.out _ _ ?Sk14 (fun hHeldN=>?_)
  case Sk14=>((try dsimp only);exact ⟨keepC HS1.out.1 HBHL.out,keepC HS1.out.2 HBHL.out⟩)
  clear hK K hHeld
  have hHeld:=hHeldN
  clear hHeldN
  (try simp only [Act.put,List.setIfInBounds_toArray,List.set_cons_zero,List.set_cons_succ])
  refine RegE.takeL (i:=15) (v:=?vk15) hB rfl (by decide) (by kernel_rfl) (by kernel_rfl) (fun _ _ _ h=>h) (Or.inl ⟨by rfl, ?yk15⟩) hHeld ?rk15
  case yk15=>((intro w hSw;(try dsimp only at hSw);go_simp)<;>with_reducible rfl)
  (try simp only [Act.put,List.setIfInBounds_toArray,List.set_cons_zero,List.set_cons_succ])
  refine RegE.takeL (i:=16) (v:=?vk16) hB rfl (by decide) (by kernel_rfl) (by kernel_rfl) (fun _ _ _ h=>h) (Or.inl ⟨by rfl, ?yk16⟩) hHeld ?rk16
  case yk16=>((intro w hSw;(try dsimp only at hSw);go_simp)<;>with_reducible rfl)
  (try simp only [Act.put,List.setIfInBounds_toArray,List.set_cons_zero,List.set_cons_succ])
  refine RegE.takeL (i:=17) (v:=?vk17) hB rfl (by decide) (by kernel_rfl) (by kernel_rfl) (fun _ _ _ h=>h) (Or.inl ⟨by rfl, ?yk17⟩) hHeld ?rk17
  case yk17=>((intro w hSw;(try dsimp only at hSw);go_simp)<;>with_reducible rfl)
  (try simp only [Act.put,List.setIfInBounds_toArray,List.set_cons_zero,List.set_cons_succ])
  refine RegE.takeL (i:=18) (v:=?vk18) hB rfl (by decide) (by kernel_rfl) (by kernel_rfl) (fun _ _ _ h=>h) (Or.inl ⟨by rfl, ?yk18⟩) hHeld ?rk18
  case yk18=>((intro w hSw;(try dsimp only at hSw);go_simp)<;>with_reducible rfl)
  (try simp only [Act.put,List.setIfInBounds_toArray,List.set_cons_zero,List.set_cons_succ])
  refine RegE.takeL (i:=19) (v:=?vk19) hB rfl (by decide) (by kernel_rfl) (by kernel_rfl) (fun _ _ _ h=>h) (Or.inl ⟨by rfl, ?yk19⟩) hHeld ?rk19
  case yk19=>((intro w hSw;(try dsimp only at hSw);go_simp)<;>with_reducible rfl)
  (try simp only [Act.put,List.setIfInBounds_toArray,List.set_cons_zero,List.set_cons_succ])
  refine RegE.takeL (i:=20) (v:=?vk20) hB rfl (by decide) (by kernel_rfl) (by kernel_rfl) (fun _ _ _ h=>h) (Or.inl ⟨by rfl, ?yk20⟩) hHeld ?rk20
  case yk20=>((intro w hSw;(try dsimp only at hSw);go_simp)<;>with_reducible rfl)
  (try simp only [Act.put,List.setIfInBounds_toArray,List.set_cons_zero,List.set_cons_succ])
  refine RegE.takeL (i:=21) (v:=?vk21) hB rfl (by decide) (by kernel_rfl) (by kernel_rfl) (fun _ _ _ h=>h) (Or.inl ⟨by rfl, ?yk21⟩) hHeld ?rk21
  case yk21=>((intro w hSw;(try dsimp only at hSw);go_simp)<;>with_reducible rfl)
  (try simp only [Act.put,List.setIfInBounds_toArray,List.set_cons_zero,List.set_cons_succ])
  refine RegE.takeL (i:=22) (v:=?vk22) hB rfl (by decide) (by kernel_rfl) (by kernel_rfl) (fun _ _ _ h=>h) (Or.inl ⟨by rfl, ?yk22⟩) hHeld ?rk22
  case yk22=>((intro w hSw;(try dsimp only at hSw);go_simp)<;>with_reducible rfl)
  (try simp only [Act.put,List.setIfInBounds_toArray,List.set_cons_zero,List.set_cons_succ])
  refine RegE.takeL (i:=23) (v:=?vk23) hB rfl (by decide) (by kernel_rfl) (by kernel_rfl) (fun _ _ _ h=>h) (Or.inl ⟨by rfl, ?yk23⟩) hHeld ?rk23
  case yk23=>((intro w hSw;(try dsimp only at hSw);go_simp)<;>with_reducible rfl)
  (try simp only [Act.put,List.setIfInBounds_toArray,List.set_cons_zero,List.set_cons_succ])
  refine RegE.takeL (i:=24) (v:=?vk24) hB rfl (by decide) (by kernel_rfl) (by kernel_rfl) (fun _ _ _ h=>h) (Or.inl ⟨by rfl, ?yk24⟩) hHeld ?rk24
  case yk24=>((intro w hSw;(try dsimp only at hSw);go_simp)<;>with_reducible rfl)
  (try simp only [Act.put,List.setIfInBounds_toArray,List.set_cons_zero,List.set_cons_succ])
  refine RegE.stepL (i:=25) rfl (by decide) (by kernel_rfl) (fun K hK=>?_)
  go_simp
  go_at_call 120
  refine (HR.out _ HBHL.out).mono ?_
  rintro e wHR ⟨rfl,hbHR⟩
  have HBHR:=hid (bnext HBHL.out hbHR)
  go_wp2_with fail
  refine hK.out _ _ ?Sk25 (fun hHeldN=>?_)
  case Sk25=>((try dsimp only);exact ⟨keepC HS1.out.1 HBHR.out,keepC HS1.out.2 HBHR.out⟩)
  clear hK K hHeld
  have hHeld:=hHeldN
  clear hHeldN
  (try simp only [Act.put,List.setIfInBounds_toArray,List.set_cons_zero,List.set_cons_succ])
  refine RegE.takeL (i:=26) (v:=?vk26) hB rfl (by decide) (by kernel_rfl) (by kernel_rfl) (fun _ _ _ h=>h) (Or.inl ⟨by rfl, ?yk26⟩) hHeld ?rk26
  case yk26=>((intro w hSw;(try dsimp only at hSw);go_simp)<;>with_reducible rfl)
  (try simp only [Act.put,List.setIfInBounds_toArray,List.set_cons_zero,List.set_cons_succ])
  refine RegE.takeL (i:=27) (v:=?vk27) hB rfl (by decide) (by kernel_rfl) (by kernel_rfl) (fun _ _ _ h=>h) (Or.inl ⟨by rfl, ?yk27⟩) hHeld ?rk27
  case yk27=>((intro w hSw;(try dsimp only at hSw);go_simp)<;>with_reducible rfl)
  (try simp only [Act.put,List.setIfInBounds_toArray,List.set_cons_zero,List.set_cons_succ])
  refine RegE.takeL (i:=28) (v:=?vk28) hB rfl (by decide) (by kernel_rfl) (by kernel_rfl) (fun _ _ _ h=>h) (Or.inl ⟨by rfl, ?yk28⟩) hHeld ?rk28
  case yk28=>((intro w hSw;(try dsimp only at hSw);go_simp)<;>with_reducible rfl)
  (try simp only [Act.put,List.setIfInBounds_toArray,List.set_cons_zero,List.set_cons_succ])
  refine RegE.takeL (i:=29) (v:=?vk29) hB rfl (by decide) (by kernel_rfl) (by kernel_rfl) (fun _ _ _ h=>h) (Or.inl ⟨by rfl, ?yk29⟩) hHeld ?rk29
  case yk29=>((intro w hSw;(try dsimp only at hSw);go_simp)<;>with_reducible rfl)
  (try simp only [Act.put,List.setIfInBounds_toArray,List.set_cons_zero,List.set_cons_succ])
  refine RegE.takeL (i:=30) (v:=?vk30) hB rfl (by decide) (by kernel_rfl) (by kernel_rfl) (fun _ _ _ h=>h) (Or.inl ⟨by rfl, ?yk30⟩) hHeld ?rk30
  case yk30=>((intro w hSw;(try dsimp only at hSw);go_simp)<;>with_reducible rfl)
  (try simp only [Act.put,List.setIfInBounds_toArray,List.set_cons_zero,List.set_cons_succ])
  refine RegE.takeL (i:=31) (v:=?vk31) hB rfl (by decide) (by kernel_rfl) (by kernel_rfl) (fun _ _ _ h=>h) (Or.inl ⟨by rfl, ?yk31⟩) hHeld ?rk31
  case yk31=>((intro w hSw;(try dsimp only at hSw);go_simp)<;>with_reducible rfl)
  (try simp only [Act.put,List.setIfInBounds_toArray,List.set_cons_zero,List.set_cons_succ])
  refine RegE.takeL (i:=32) (v:=?vk32) hB rfl (by decide) (by kernel_rfl) (by kernel_rfl) (fun _ _ _ h=>h) (Or.inl ⟨by rfl, ?yk32⟩) hHeld ?rk32
  case yk32=>((intro w hSw;(try dsimp only at hSw);go_simp)<;>with_reducible rfl)
  (try simp only [Act.put,List.setIfInBounds_toArray,List.set_cons_zero,List.set_cons_succ])
  refine RegE.takeL (i:=33) (v:=?vk33) hB rfl (by decide) (by kernel_rfl) (by kernel_rfl) (fun _ _ _ h=>h) (Or.inl ⟨by rfl, ?yk33⟩) hHeld ?rk33
  case yk33=>((intro w hSw;(try dsimp only at hSw);go_simp)<;>with_reducible rfl)
  (try simp only [Act.put,List.setIfInBounds_toArray,List.set_cons_zero,List.set_cons_succ])
  refine RegE.takeL (i:=34) (v:=?vk34) hB rfl (by decide) (by kernel_rfl) (by kernel_rfl) (fun _ _ _ h=>h) (Or.inl ⟨by rfl, ?yk34⟩) hHeld ?rk34
  case yk34=>((intro w hSw;(try dsimp only at hSw);go_simp)<;>with_reducible rfl)
  (try simp only [Act.put,List.setIfInBounds_toArray,List.set_cons_zero,List.set_cons_succ])
  refine RegE.lastL rfl (by kernel_rfl) (by kernel_rfl) (fun K hK=>?_)
  go_simp
  refine hK.out _ _ ?_
  clear hK K
  go_wp2
  go_ret
  exact ⟨rfl,HBHR.out⟩
 ·have HV:Hid (ruleOk v l r=r.occ.all (fun y=>l.occ.contains y)):=by show _=_;unfold ruleOk;rw [hin,hsl,hsr,beq_eq_false_iff_ne.2 hk2];rfl
  rw [HV.out]
  obtain ⟨rr,hrr⟩:∃ rr,rr=r.occ.all (fun y=>l.occ.contains y):=⟨_,rfl⟩
  rw [←hrr]
  have HRR:=hid hrr
  have hk2b:(l.k==2)=false:=beq_eq_false_iff_ne.2 hk2
  obtain ⟨l1,l2,l3,hv0,hv1⟩:=sideOk_parts hsl
  obtain ⟨r1,r2,r3,_,_⟩:=sideOk_parts hsr
  have HOL:Hid (∀ wx,Below w.heap.size w wx→Calls Tryz.prog 121 #[ptr b (o+1),.int .i64 v] wx fun e w'=>∃ A cap,e=.returned (.slice A l.occ.length cap)∧Ints w' A l.occ∧Below wx.heap.size wx w'):=fun wx h=>
   occursS_any l b (o+1) B v wx (HR0.out.left.below (h.mono hB)) (Nat.le_trans hB h.size) l1 l2 l3 hv0 hv1
  have HOR:Hid (∀ wx,Below w.heap.size w wx→Calls Tryz.prog 121 #[ptr b (o+6),.int .i64 v] wx fun e w'=>∃ A cap,e=.returned (.slice A r.occ.length cap)∧Ints w' A r.occ∧Below wx.heap.size wx w'):=fun wx h=>
   occursS_any r b (o+6) B v wx (HR0.out.right.below (h.mono hB)) (Nat.le_trans hB h.size) r1 r2 r3 hv0 hv1
  have hll:l.occ.length≤1000:=by
   have:=occL_len l.ks (if l.k=2 then insS l.n [] else [])
   rw [if_neg hk2] at this
   show (occL l.ks (if l.k=2 then insS l.n [] else [])).length≤1000
   rw [if_neg hk2]
   simp at this;omega
  have hrl:r.occ.length≤1000:=by
   have h:=occL_len r.ks (if r.k=2 then insS r.n [] else [])
   have h2:(if r.k=2 then insS r.n [] else []).length≤1:=by
    split
    ·exact insS_le
    ·simp
   show (occL r.ks (if r.k=2 then insS r.n [] else [])).length≤1000
   omega
  clear hin hsl hsr hk2 hrr l1 l2 l3 r1 r2 r3 hl hr
  go_enter Tryz.func57,Tryz.ntmps57
  go_wp2_with fail
  refine RegE.start (S:=(fun wx=>wx.cell? ⟨b,o,none⟩=some (.int .i64 v)∧wx.cell? ⟨b,o+1,none⟩=some (.int .i64 l.k))) 35 (by kernel_rfl) (by kernel_rfl) ?So0 (fun hHeld hB=>?_)
  case So0=>((try dsimp only);exact HS0.out)
  refine RegE.takeL (i:=0) (v:=?vo0) hB rfl (by decide) (by kernel_rfl) (by kernel_rfl) (fun _ _ _ h=>h) (Or.inl ⟨by rfl, ?yo0⟩) hHeld ?ro0
  case yo0=>((intro w hSw;(try dsimp only at hSw);go_simp)<;>with_reducible rfl)
  (try simp only [Act.put,List.setIfInBounds_toArray,List.set_cons_zero,List.set_cons_succ])
  refine RegE.takeL (i:=1) (v:=?vo1) hB rfl (by decide) (by kernel_rfl) (by kernel_rfl) (fun _ _ _ h=>h) (Or.inl ⟨by rfl, ?yo1⟩) hHeld ?ro1
  case yo1=>((intro w hSw;(try dsimp only at hSw);go_simp)<;>with_reducible rfl)
  (try simp only [Act.put,List.setIfInBounds_toArray,List.set_cons_zero,List.set_cons_succ])
  refine RegE.takeL (i:=2) (v:=?vo2) hB rfl (by decide) (by kernel_rfl) (by kernel_rfl) (fun _ _ _ h=>h) (Or.inl ⟨by rfl, ?yo2⟩) hHeld ?ro2
  case yo2=>((intro w hSw;(try dsimp only at hSw);go_simp)<;>with_reducible rfl)
  (try simp only [Act.put,List.setIfInBounds_toArray,List.set_cons_zero,List.set_cons_succ])
  refine RegE.takeL (i:=3) (v:=?vo3) hB rfl (by decide) (by kernel_rfl) (by kernel_rfl) (fun _ _ _ h=>h) (Or.inl ⟨by rfl, ?yo3⟩) hHeld ?ro3
  case yo3=>((intro w hSw;(try dsimp only at hSw);go_simp)<;>with_reducible rfl)
  (try simp only [Act.put,List.setIfInBounds_toArray,List.set_cons_zero,List.set_cons_succ])
  refine RegE.stepL (i:=4) rfl (by decide) (by kernel_rfl) (fun K hK=>?_)
  go_simp
  go_at_call 106
  refine (HIN.out _).mono ?_
  rintro e w' ⟨rfl,hww⟩
  obtain rfl:=hww.symm
  go_wp2_with fail
  refine hK.out _ _ ?So4 (fun hHeldN=>?_)
  case So4=>((try dsimp only);exact hHeld)
  clear hK K hHeld
  have hHeld:=hHeldN
  clear hHeldN
  (try simp only [Act.put,List.setIfInBounds_toArray,List.set_cons_zero,List.set_cons_succ])
  refine RegE.takeL (i:=5) (v:=?vo5) hB rfl (by decide) (by kernel_rfl) (by kernel_rfl) (fun _ _ _ h=>h) (Or.inl ⟨by rfl, ?yo5⟩) hHeld ?ro5
  case yo5=>((intro w hSw;(try dsimp only at hSw);go_simp)<;>with_reducible rfl)
  (try simp only [Act.put,List.setIfInBounds_toArray,List.set_cons_zero,List.set_cons_succ])
  refine RegE.takeL (i:=6) (v:=?vo6) hB rfl (by decide) (by kernel_rfl) (by kernel_rfl) (fun _ _ _ h=>h) (Or.inl ⟨by rfl, ?yo6⟩) hHeld ?ro6
  case yo6=>((intro w hSw;(try dsimp only at hSw);go_simp)<;>with_reducible rfl)
  (try simp only [Act.put,List.setIfInBounds_toArray,List.set_cons_zero,List.set_cons_succ])
  refine RegE.takeL (i:=7) (v:=?vo7) hB rfl (by decide) (by kernel_rfl) (by kernel_rfl) (fun _ _ _ h=>h) (Or.inl ⟨by rfl, ?yo7⟩) hHeld ?ro7
  case yo7=>((intro w hSw;(try dsimp only at hSw);go_simp)<;>with_reducible rfl)
  (try simp only [Act.put,List.setIfInBounds_toArray,List.set_cons_zero,List.set_cons_succ])
  refine RegE.takeL (i:=8) (v:=?vo8) hB rfl (by decide) (by kernel_rfl) (by kernel_rfl) (fun _ _ _ h=>h) (Or.inl ⟨by rfl, ?yo8⟩) hHeld ?ro8
  case yo8=>((intro w hSw;(try dsimp only at hSw);go_simp)<;>with_reducible rfl)
  (try simp only [Act.put,List.setIfInBounds_toArray,List.set_cons_zero,List.set_cons_succ])
  refine RegE.takeL (i:=9) (v:=?vo9) hB rfl (by decide) (by kernel_rfl) (by kernel_rfl) (fun _ _ _ h=>h) (Or.inl ⟨by rfl, ?yo9⟩) hHeld ?ro9
  case yo9=>((intro w hSw;(try dsimp only at hSw);go_simp)<;>with_reducible rfl)
  (try simp only [Act.put,List.setIfInBounds_toArray,List.set_cons_zero,List.set_cons_succ])
  refine RegE.takeL (i:=10) (v:=?vo10) hB rfl (by decide) (by kernel_rfl) (by kernel_rfl) (fun _ _ _ h=>h) (Or.inl ⟨by rfl, ?yo10⟩) hHeld ?ro10
  case yo10=>((intro w hSw;(try dsimp only at hSw);go_simp)<;>with_reducible rfl)
  (try simp only [Act.put,List.setIfInBounds_toArray,List.set_cons_zero,List.set_cons_succ])
  refine RegE.takeL (i:=11) (v:=?vo11) hB rfl (by decide) (by kernel_rfl) (by kernel_rfl) (fun _ _ _ h=>h) (Or.inl ⟨by rfl, ?yo11⟩) hHeld ?ro11
  case yo11=>((intro w hSw;(try dsimp only at hSw);go_simp)<;>with_reducible rfl)
  (try simp only [Act.put,List.setIfInBounds_toArray,List.set_cons_zero,List.set_cons_succ])
  refine RegE.takeL (i:=12) (v:=?vo12) hB rfl (by decide) (by kernel_rfl) (by kernel_rfl) (fun _ _ _ h=>h) (Or.inl ⟨by rfl, ?yo12⟩) hHeld ?ro12
  case yo12=>((intro w hSw;(try dsimp only at hSw);go_simp)<;>with_reducible rfl)
  (try simp only [Act.put,List.setIfInBounds_toArray,List.set_cons_zero,List.set_cons_succ])
  refine RegE.takeL (i:=13) (v:=?vo13) hB rfl (by decide) (by kernel_rfl) (by kernel_rfl) (fun _ _ _ h=>h) (Or.inl ⟨by rfl, ?yo13⟩) hHeld ?ro13
  case yo13=>((intro w hSw;(try dsimp only at hSw);go_simp)<;>with_reducible rfl)
  (try simp only [Act.put,List.setIfInBounds_toArray,List.set_cons_zero,List.set_cons_succ])
  refine RegE.stepL (i:=14) rfl (by decide) (by kernel_rfl) (fun K hK=>?_)
  go_simp
  go_at_call 120
  refine (HL.out _ (Below.refl _ _).drew).mono ?_
  rintro e wHL ⟨rfl,hbHL⟩
  have HBHL:=hid (bnext (Below.refl _ _).drew hbHL)
  go_wp2_with fail
  refine hK.out _ _ ?So14 (fun hHeldN=>?_)
  case So14=>((try dsimp only);exact ⟨keepC HS1.out.1 HBHL.out,keepC HS1.out.2 HBHL.out⟩)
  clear hK K hHeld
  have hHeld:=hHeldN
  clear hHeldN
  (try simp only [Act.put,List.setIfInBounds_toArray,List.set_cons_zero,List.set_cons_succ])
  refine RegE.takeL (i:=15) (v:=?vo15) hB rfl (by decide) (by kernel_rfl) (by kernel_rfl) (fun _ _ _ h=>h) (Or.inl ⟨by rfl, ?yo15⟩) hHeld ?ro15
  case yo15=>((intro w hSw;(try dsimp only at hSw);go_simp)<;>with_reducible rfl)
  (try simp only [Act.put,List.setIfInBounds_toArray,List.set_cons_zero,List.set_cons_succ])
  refine RegE.takeL (i:=16) (v:=?vo16) hB rfl (by decide) (by kernel_rfl) (by kernel_rfl) (fun _ _ _ h=>h) (Or.inl ⟨by rfl, ?yo16⟩) hHeld ?ro16
  case yo16=>((intro w hSw;(try dsimp only at hSw);go_simp)<;>with_reducible rfl)
  (try simp only [Act.put,List.setIfInBounds_toArray,List.set_cons_zero,List.set_cons_succ])
  refine RegE.takeL (i:=17) (v:=?vo17) hB rfl (by decide) (by kernel_rfl) (by kernel_rfl) (fun _ _ _ h=>h) (Or.inl ⟨by rfl, ?yo17⟩) hHeld ?ro17
  case yo17=>((intro w hSw;(try dsimp only at hSw);go_simp)<;>with_reducible rfl)
  (try simp only [Act.put,List.setIfInBounds_toArray,List.set_cons_zero,List.set_cons_succ])
  refine RegE.takeL (i:=18) (v:=?vo18) hB rfl (by decide) (by kernel_rfl) (by kernel_rfl) (fun _ _ _ h=>h) (Or.inl ⟨by rfl, ?yo18⟩) hHeld ?ro18
  case yo18=>((intro w hSw;(try dsimp only at hSw);go_simp)<;>with_reducible rfl)
  (try simp only [Act.put,List.setIfInBounds_toArray,List.set_cons_zero,List.set_cons_succ])
  refine RegE.takeL (i:=19) (v:=?vo19) hB rfl (by decide) (by kernel_rfl) (by kernel_rfl) (fun _ _ _ h=>h) (Or.inl ⟨by rfl, ?yo19⟩) hHeld ?ro19
  case yo19=>((intro w hSw;(try dsimp only at hSw);go_simp)<;>with_reducible rfl)
  (try simp only [Act.put,List.setIfInBounds_toArray,List.set_cons_zero,List.set_cons_succ])
  refine RegE.takeL (i:=20) (v:=?vo20) hB rfl (by decide) (by kernel_rfl) (by kernel_rfl) (fun _ _ _ h=>h) (Or.inl ⟨by rfl, ?yo20⟩) hHeld ?ro20
  case yo20=>((intro w hSw;(try dsimp only at hSw);go_simp)<;>with_reducible rfl)
  (try simp only [Act.put,List.setIfInBounds_toArray,List.set_cons_zero,List.set_cons_succ])
  refine RegE.takeL (i:=21) (v:=?vo21) hB rfl (by decide) (by kernel_rfl) (by kernel_rfl) (fun _ _ _ h=>h) (Or.inl ⟨by rfl, ?yo21⟩) hHeld ?ro21
  case yo21=>((intro w hSw;(try dsimp only at hSw);go_simp)<;>with_reducible rfl)
  (try simp only [Act.put,List.setIfInBounds_toArray,List.set_cons_zero,List.set_cons_succ])
  refine RegE.takeL (i:=22) (v:=?vo22) hB rfl (by decide) (by kernel_rfl) (by kernel_rfl) (fun _ _ _ h=>h) (Or.inl ⟨by rfl, ?yo22⟩) hHeld ?ro22
  case yo22=>((intro w hSw;(try dsimp only at hSw);go_simp)<;>with_reducible rfl)
  (try simp only [Act.put,List.setIfInBounds_toArray,List.set_cons_zero,List.set_cons_succ])
  refine RegE.takeL (i:=23) (v:=?vo23) hB rfl (by decide) (by kernel_rfl) (by kernel_rfl) (fun _ _ _ h=>h) (Or.inl ⟨by rfl, ?yo23⟩) hHeld ?ro23
  case yo23=>((intro w hSw;(try dsimp only at hSw);go_simp)<;>with_reducible rfl)
  (try simp only [Act.put,List.setIfInBounds_toArray,List.set_cons_zero,List.set_cons_succ])
  refine RegE.takeL (i:=24) (v:=?vo24) hB rfl (by decide) (by kernel_rfl) (by kernel_rfl) (fun _ _ _ h=>h) (Or.inl ⟨by rfl, ?yo24⟩) hHeld ?ro24
  case yo24=>((intro w hSw;(try dsimp only at hSw);go_simp)<;>with_reducible rfl)
  (try simp only [Act.put,List.setIfInBounds_toArray,List.set_cons_zero,List.set_cons_succ])
  refine RegE.stepL (i:=25) rfl (by decide) (by kernel_rfl) (fun K hK=>?_)
  go_simp
  go_at_call 120
  refine (HR.out _ HBHL.out).mono ?_
  rintro e wHR ⟨rfl,hbHR⟩
  have HBHR:=hid (bnext HBHL.out hbHR)
  go_wp2_with fail
  refine hK.out _ _ ?So25 (fun hHeldN=>?_)
  case So25=>((try dsimp only);exact ⟨keepC HS1.out.1 HBHR.out,keepC HS1.out.2 HBHR.out⟩)
  clear hK K hHeld
  have hHeld:=hHeldN
  clear hHeldN
  (try simp only [Act.put,List.setIfInBounds_toArray,List.set_cons_zero,List.set_cons_succ])
  refine RegE.takeL (i:=26) (v:=?vo26) hB rfl (by decide) (by kernel_rfl) (by kernel_rfl) (fun _ _ _ h=>h) (Or.inl ⟨by rfl, ?yo26⟩) hHeld ?ro26
  case yo26=>((intro w hSw;(try dsimp only at hSw);go_simp)<;>with_reducible rfl)
  (try simp only [Act.put,List.setIfInBounds_toArray,List.set_cons_zero,List.set_cons_succ])
  refine RegE.takeL (i:=27) (v:=?vo27) hB rfl (by decide) (by kernel_rfl) (by kernel_rfl) (fun _ _ _ h=>h) (Or.inl ⟨by rfl, ?yo27⟩) hHeld ?ro27
  case yo27=>((intro w hSw;(try dsimp only at hSw);go_simp)<;>with_reducible rfl)
  (try simp only [Act.put,List.setIfInBounds_toArray,List.set_cons_zero,List.set_cons_succ])
  refine RegE.takeL (i:=28) (v:=?vo28) hB rfl (by decide) (by kernel_rfl) (by kernel_rfl) (fun _ _ _ h=>h) (Or.inl ⟨by rfl, ?yo28⟩) hHeld ?ro28
  case yo28=>((intro w hSw;(try dsimp only at hSw);go_simp)<;>with_reducible rfl)
  (try simp only [Act.put,List.setIfInBounds_toArray,List.set_cons_zero,List.set_cons_succ])
  refine RegE.takeL (i:=29) (v:=?vo29) hB rfl (by decide) (by kernel_rfl) (by kernel_rfl) (fun _ _ _ h=>h) (Or.inl ⟨by rfl, ?yo29⟩) hHeld ?ro29
  case yo29=>((intro w hSw;(try dsimp only at hSw);go_simp)<;>with_reducible rfl)
  (try simp only [Act.put,List.setIfInBounds_toArray,List.set_cons_zero,List.set_cons_succ])
  refine RegE.takeL (i:=30) (v:=?vo30) hB rfl (by decide) (by kernel_rfl) (by kernel_rfl) (fun _ _ _ h=>h) (Or.inl ⟨by rfl, ?yo30⟩) hHeld ?ro30
  case yo30=>((intro w hSw;(try dsimp only at hSw);go_simp)<;>with_reducible rfl)
  (try simp only [Act.put,List.setIfInBounds_toArray,List.set_cons_zero,List.set_cons_succ])
  refine RegE.takeL (i:=31) (v:=?vo31) hB rfl (by decide) (by kernel_rfl) (by kernel_rfl) (fun _ _ _ h=>h) (Or.inl ⟨by rfl, ?yo31⟩) hHeld ?ro31
  case yo31=>((intro w hSw;(try dsimp only at hSw);go_simp)<;>with_reducible rfl)
  (try simp only [Act.put,List.setIfInBounds_toArray,List.set_cons_zero,List.set_cons_succ])
  refine RegE.takeL (i:=32) (v:=?vo32) hB rfl (by decide) (by kernel_rfl) (by kernel_rfl) (fun _ _ _ h=>h) (Or.inl ⟨by rfl, ?yo32⟩) hHeld ?ro32
  case yo32=>((intro w hSw;(try dsimp only at hSw);go_simp)<;>with_reducible rfl)
  (try simp only [Act.put,List.setIfInBounds_toArray,List.set_cons_zero,List.set_cons_succ])
  refine RegE.takeL (i:=33) (v:=?vo33) hB rfl (by decide) (by kernel_rfl) (by kernel_rfl) (fun _ _ _ h=>h) (Or.inl ⟨by rfl, ?yo33⟩) hHeld ?ro33
  case yo33=>((intro w hSw;(try dsimp only at hSw);go_simp)<;>with_reducible rfl)
  (try simp only [Act.put,List.setIfInBounds_toArray,List.set_cons_zero,List.set_cons_succ])
  refine RegE.takeL (i:=34) (v:=?vo34) hB rfl (by decide) (by kernel_rfl) (by kernel_rfl) (fun _ _ _ h=>h) (Or.inl ⟨by rfl, ?yo34⟩) hHeld ?ro34
  case yo34=>((intro w hSw;(try dsimp only at hSw);go_simp)<;>with_reducible rfl)
  (try simp only [Act.put,List.setIfInBounds_toArray,List.set_cons_zero,List.set_cons_succ])
  refine RegE.lastL rfl (by kernel_rfl) (by kernel_rfl) (fun K hK=>?_)
  go_simp
  refine hK.out _ _ ?_
  clear hK K
  have hbR:Below w.heap.size w wHR:=HBHR.out
  have q0:=keepC HS1.out.1 hbR
  have HBQ:=hid hbR
  clear hHeld hbR
  go_wp2_with fail
  refine RegE.start (S:=(fun wx=>wx.cell? ⟨b,o,none⟩=some (.int .i64 v))) 8 (by kernel_rfl) (by kernel_rfl) ?Sx0 (fun hHeld hB=>?_)
  case Sx0=>((try dsimp only);exact q0)
  refine RegE.takeL (i:=0) (v:=?vx0) hB rfl (by decide) (by kernel_rfl) (by kernel_rfl) (fun _ _ _ h=>h) (Or.inl ⟨by rfl, ?yx0⟩) hHeld ?rx0
  case yx0=>((intro w hSw;(try dsimp only at hSw);go_simp)<;>with_reducible rfl)
  (try simp only [Act.put,List.setIfInBounds_toArray,List.set_cons_zero,List.set_cons_succ])
  refine RegE.takeL (i:=1) (v:=?vx1) hB rfl (by decide) (by kernel_rfl) (by kernel_rfl) (fun _ _ _ h=>h) (Or.inl ⟨by rfl, ?yx1⟩) hHeld ?rx1
  case yx1=>((intro w hSw;(try dsimp only at hSw);go_simp)<;>with_reducible rfl)
  (try simp only [Act.put,List.setIfInBounds_toArray,List.set_cons_zero,List.set_cons_succ])
  refine RegE.takeL (i:=2) (v:=?vx2) hB rfl (by decide) (by kernel_rfl) (by kernel_rfl) (fun _ _ _ h=>h) (Or.inl ⟨by rfl, ?yx2⟩) hHeld ?rx2
  case yx2=>((intro w hSw;(try dsimp only at hSw);go_simp)<;>with_reducible rfl)
  (try simp only [Act.put,List.setIfInBounds_toArray,List.set_cons_zero,List.set_cons_succ])
  refine RegE.takeL (i:=3) (v:=?vx3) hB rfl (by decide) (by kernel_rfl) (by kernel_rfl) (fun _ _ _ h=>h) (Or.inl ⟨by rfl, ?yx3⟩) hHeld ?rx3
  case yx3=>((intro w hSw;(try dsimp only at hSw);go_simp)<;>with_reducible rfl)
  (try simp only [Act.put,List.setIfInBounds_toArray,List.set_cons_zero,List.set_cons_succ])
  refine RegE.takeL (i:=4) (v:=?vx4) hB rfl (by decide) (by kernel_rfl) (by kernel_rfl) (fun _ _ _ h=>h) (Or.inl ⟨by rfl, ?yx4⟩) hHeld ?rx4
  case yx4=>((intro w hSw;(try dsimp only at hSw);go_simp)<;>with_reducible rfl)
  (try simp only [Act.put,List.setIfInBounds_toArray,List.set_cons_zero,List.set_cons_succ])
  refine RegE.takeL (i:=5) (v:=?vx5) hB rfl (by decide) (by kernel_rfl) (by kernel_rfl) (fun _ _ _ h=>h) (Or.inl ⟨by rfl, ?yx5⟩) hHeld ?rx5
  case yx5=>((intro w hSw;(try dsimp only at hSw);go_simp)<;>with_reducible rfl)
  (try simp only [Act.put,List.setIfInBounds_toArray,List.set_cons_zero,List.set_cons_succ])
  refine RegE.takeL (i:=6) (v:=?vx6) hB rfl (by decide) (by kernel_rfl) (by kernel_rfl) (fun _ _ _ h=>h) (Or.inl ⟨by rfl, ?yx6⟩) hHeld ?rx6
  case yx6=>((intro w hSw;(try dsimp only at hSw);go_simp)<;>with_reducible rfl)
  (try simp only [Act.put,List.setIfInBounds_toArray,List.set_cons_zero,List.set_cons_succ])
  refine RegE.stepL (i:=7) rfl (by decide) (by kernel_rfl) (fun K hK=>?_)
  go_simp
  go_at_call 121
  refine (HOL.out _ (bnext HBQ.out (Below.refl _ _).drew)).mono ?_
  rintro e wOL ⟨AOL,capOL,rfl,hiOL,hbOL⟩
  have HBOL:=hid (bnext (bnext HBQ.out (Below.refl _ _).drew) hbOL)
  go_wp2_with fail
  refine hK.out _ _ ?Sx7 (fun hHeldN=>?_)
  case Sx7=>((try dsimp only);exact keepC HS1.out.1 HBOL.out)
  clear hK K hHeld
  have hHeld:=hHeldN
  clear hHeldN
  (try simp only [Act.put,List.setIfInBounds_toArray,List.set_cons_zero,List.set_cons_succ])
  refine RegE.lastL rfl (by kernel_rfl) (by kernel_rfl) (fun K hK=>?_)
  go_simp
  refine hK.out _ _ ?_
  clear hK K
  have HIL:=hid hiOL
  have q0:=keepC HS1.out.1 HBOL.out
  clear hHeld hiOL hbOL
  go_wp2_with fail
  refine RegE.start (S:=(fun wx=>wx.cell? ⟨b,o,none⟩=some (.int .i64 v))) 8 (by kernel_rfl) (by kernel_rfl) ?Sy0 (fun hHeld hB=>?_)
  case Sy0=>((try dsimp only);exact q0)
  refine RegE.takeL (i:=0) (v:=?vy0) hB rfl (by decide) (by kernel_rfl) (by kernel_rfl) (fun _ _ _ h=>h) (Or.inl ⟨by rfl, ?yy0⟩) hHeld ?ry0
  case yy0=>((intro w hSw;(try dsimp only at hSw);go_simp)<;>with_reducible rfl)
  (try simp only [Act.put,List.setIfInBounds_toArray,List.set_cons_zero,List.set_cons_succ])
  refine RegE.takeL (i:=1) (v:=?vy1) hB rfl (by decide) (by kernel_rfl) (by kernel_rfl) (fun _ _ _ h=>h) (Or.inl ⟨by rfl, ?yy1⟩) hHeld ?ry1
  case yy1=>((intro w hSw;(try dsimp only at hSw);go_simp)<;>with_reducible rfl)
  (try simp only [Act.put,List.setIfInBounds_toArray,List.set_cons_zero,List.set_cons_succ])
  refine RegE.takeL (i:=2) (v:=?vy2) hB rfl (by decide) (by kernel_rfl) (by kernel_rfl) (fun _ _ _ h=>h) (Or.inl ⟨by rfl, ?yy2⟩) hHeld ?ry2
  case yy2=>((intro w hSw;(try dsimp only at hSw);go_simp)<;>with_reducible rfl)
  (try simp only [Act.put,List.setIfInBounds_toArray,List.set_cons_zero,List.set_cons_succ])
  refine RegE.takeL (i:=3) (v:=?vy3) hB rfl (by decide) (by kernel_rfl) (by kernel_rfl) (fun _ _ _ h=>h) (Or.inl ⟨by rfl, ?yy3⟩) hHeld ?ry3
  case yy3=>((intro w hSw;(try dsimp only at hSw);go_simp)<;>with_reducible rfl)
  (try simp only [Act.put,List.setIfInBounds_toArray,List.set_cons_zero,List.set_cons_succ])
  refine RegE.takeL (i:=4) (v:=?vy4) hB rfl (by decide) (by kernel_rfl) (by kernel_rfl) (fun _ _ _ h=>h) (Or.inl ⟨by rfl, ?yy4⟩) hHeld ?ry4
  case yy4=>((intro w hSw;(try dsimp only at hSw);go_simp)<;>with_reducible rfl)
  (try simp only [Act.put,List.setIfInBounds_toArray,List.set_cons_zero,List.set_cons_succ])
  refine RegE.takeL (i:=5) (v:=?vy5) hB rfl (by decide) (by kernel_rfl) (by kernel_rfl) (fun _ _ _ h=>h) (Or.inl ⟨by rfl, ?yy5⟩) hHeld ?ry5
  case yy5=>((intro w hSw;(try dsimp only at hSw);go_simp)<;>with_reducible rfl)
  (try simp only [Act.put,List.setIfInBounds_toArray,List.set_cons_zero,List.set_cons_succ])
  refine RegE.takeL (i:=6) (v:=?vy6) hB rfl (by decide) (by kernel_rfl) (by kernel_rfl) (fun _ _ _ h=>h) (Or.inl ⟨by rfl, ?yy6⟩) hHeld ?ry6
  case yy6=>((intro w hSw;(try dsimp only at hSw);go_simp)<;>with_reducible rfl)
  (try simp only [Act.put,List.setIfInBounds_toArray,List.set_cons_zero,List.set_cons_succ])
  refine RegE.stepL (i:=7) rfl (by decide) (by kernel_rfl) (fun K hK=>?_)
  go_simp
  go_at_call 121
  refine (HOR.out _ (bnext HBOL.out (Below.refl _ _).drew)).mono ?_
  rintro e wOR ⟨AOR,capOR,rfl,hiOR,hbOR⟩
  have HBOR:=hid (bnext (bnext HBOL.out (Below.refl _ _).drew) hbOR)
  go_wp2_with fail
  refine hK.out _ _ ?Sy7 (fun hHeldN=>?_)
  case Sy7=>((try dsimp only);exact keepC HS1.out.1 HBOR.out)
  clear hK K hHeld
  have hHeld:=hHeldN
  clear hHeldN
  (try simp only [Act.put,List.setIfInBounds_toArray,List.set_cons_zero,List.set_cons_succ])
  refine RegE.lastL rfl (by kernel_rfl) (by kernel_rfl) (fun K hK=>?_)
  go_simp
  refine hK.out _ _ ?_
  clear hK K
  have HIL2:=hid (HIL.out.below (Below.trans (Below.refl _ _).drew (hbOR.mono (Nat.le_refl _))))
  have HIR:=hid hiOR
  clear hHeld hiOR hbOR HIL q0
  go_wp2_with fail
  go_loopg [5] (r.occ.length+1) (fun kx s5 wr=>∃ (i:Nat),s5=.int .i64 (i:Int)∧i≤r.occ.length∧r.occ.length - i<kx∧Hid (rr=(r.occ.drop i).all (fun y=>l.occ.contains y))∧wOR=wr)
  case atStart=>exact ⟨0,rfl,by omega,by omega,by show _=_;rw [List.drop_zero];exact HRR.out,rfl⟩
  case round=>
   obtain ⟨i,rfl,hin,hkx,HD,rfl⟩:=hrel
   by_cases hlt:i<r.occ.length
   ·have hiz:(i:Int)<(r.occ.length:Int):=by omega
    obtain ⟨bq,oq,rfl,_,hc⟩:=HIR.out.cfAt (by omega)
    have e0:=hc i hlt
    have HX:Hid (r.occ.drop i=cf r.occ i :: r.occ.drop (i+1)):=by
     show _=_;rw [List.drop_eq_getElem_cons hlt];congr 1;simp [cf,List.getD,hlt]
    obtain ⟨y,hy⟩:∃ y,y=cf r.occ i:=⟨_,rfl⟩
    rw [←hy] at e0 HX
    have HH:=hid (hasS_any AOL capOL l.occ y wOR HIL2.out (by omega))
    have HD2:Hid (rr=(l.occ.contains y&&(r.occ.drop (i+1)).all (fun y=>l.occ.contains y))):=by show _=_;rw [HD.out,HX.out];rfl
    clear hc hy HX HD
    cases hcy:l.occ.contains y
    ·rw [hcy] at HH HD2
     have HV2:Hid (rr=false):=HD2.out
     clear hcy
     go_wp2_with (go_at_call 122;refine HH.out.mono ?_;rintro e w' ⟨rfl,rfl⟩)
     go_ret
     exact ⟨by rw [HV2.out];rfl,HBOR.out⟩
    ·rw [hcy] at HH HD2
     have HV2:Hid (rr=(r.occ.drop (i+1)).all (fun y=>l.occ.contains y)):=HD2.out
     clear hcy
     go_wp2_with (go_at_call 122;refine HH.out.mono ?_;rintro e w' ⟨rfl,rfl⟩)
     go_roundg (r.occ.length - (i+1)+1)
     case measure=>omega
     case rel=>exact ⟨i+1,by first | rfl | go_num,by omega,by omega,HV2,rfl⟩
   ·obtain rfl:i=r.occ.length:=by omega
    have hiz:¬ (r.occ.length:Int)<(r.occ.length:Int):=by omega
    have HV2:Hid (rr=true):=by show _=_;rw [HD.out,List.drop_length];rfl
    go_wp2
    go_ret
    exact ⟨by rw [HV2.out];rfl,HBOR.out⟩
end
end Go.Proofs.YtgfkglhelfkpoaaGreat
