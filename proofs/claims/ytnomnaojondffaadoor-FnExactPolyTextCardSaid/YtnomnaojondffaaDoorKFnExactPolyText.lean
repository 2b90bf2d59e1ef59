/- FnExactPolyText: for every polynomial the program's PolyText returns what the reference's returns. No condition; the card ties the library's tables to the program's text. -/
import Derived.Test.YtnomnaojondffaaDoorKB
import Derived.Shelf.Strings.OnBuilder
import Derived.Shelf.LaysM
import Derived.Shelf.Strconv.Itoa4
import Derived.Test.YtnomnaojondffaaDoorKTB
import Derived.Test.YtnomnaojondffaaDoorKY
import Derived.Lib.SmallJoins
import Derived.Laws.OwnMore
import Derived.Test.YtnomnaojondffaaDoorKP
import Derived.Deep.RegionHeld3
import Derived.WalkKit
import Derived.ProofKit
import Derived.OpenShut
import Derived.ShutString
import Derived.ChangeOld
import Derived.Below
import Derived.Test.YtnomnaojondffaaDoorCards
import Derived.Test.YtnomnaojondffaaDoorTie
import Derived.Deep.DeepHandedRow
import Derived.Lib.LaidTab

/- The library's strings.Join and strconv.FormatInt at this seat: the shelf's contracts, laid by the kit's tools (lay-shelf.mjs, lay-plain.mjs). -/
namespace Go.Proofs
open Go.Shelf
def Tryd.lays156_ren : Go.Shelf.Ren := ⟨fun | 156 => 23 | 165 => 50 | 166 => 51 | 169 => 52 | 240 => 78 | 241 => 79 | 276 => 109 | 277 => 110 | n => n, fun | 31 => 56 | 9 => 9 | 3 => 3 | 4 => 4 | 0 => 0 | 20 => 20 | 72 => 93 | 76 => 97 | 70 => 90 | 37 => 91 | 75 => 96 | 127 => 129 | 164 => 149 | 5 => 5 | 80 => 99 | n => n, fun | n => n⟩
theorem Tryd.lays156 : Go.Proofs.Lays.n156 Tryd.prog Tryd.lays156_ren := {
  mixed := by kernel_rfl
  f156 := Tryd.func23.trans (congrArg some (by kernel_rfl))
  f165 := Tryd.func50.trans (congrArg some (by kernel_rfl))
  f166 := Tryd.func51.trans (congrArg some (by kernel_rfl))
  f169 := Tryd.func52.trans (congrArg some (by kernel_rfl))
  f240 := Tryd.func78.trans (congrArg some (by kernel_rfl))
  f241 := Tryd.func79.trans (congrArg some (by kernel_rfl))
  f276 := Tryd.func109.trans (congrArg some (by kernel_rfl))
  f277 := Tryd.func110.trans (congrArg some (by kernel_rfl))
  t0 := Tryd.underlying0
  a0 := Tryd.isAgg0
  z0 := Tryd.sizeOf0
  v0 := Tryd.zeroValue0
  t3 := Tryd.underlying3
  a3 := Tryd.isAgg3
  z3 := Tryd.sizeOf3
  v3 := Tryd.zeroValue3
  t4 := Tryd.underlying4
  a4 := Tryd.isAgg4
  z4 := Tryd.sizeOf4
  v4 := Tryd.zeroValue4
  t9 := Tryd.underlying9
  a9 := Tryd.isAgg9
  z9 := Tryd.sizeOf9
  v9 := Tryd.zeroValue9
  t20 := Tryd.underlying20
  a20 := Tryd.isAgg20
  z20 := Tryd.sizeOf20
  v20 := Tryd.zeroValue20
  t31 := Tryd.underlying56
  a31 := Tryd.isAgg56
  z31 := Tryd.sizeOf56
  v31 := Tryd.zeroValue56
  t37 := Tryd.underlying91
  a37 := Tryd.isAgg91
  z37 := Tryd.sizeOf91
  v37 := Tryd.zeroValue91
  t70 := Tryd.underlying90
  a70 := Tryd.isAgg90
  z70 := Tryd.sizeOf90
  v70 := Tryd.zeroValue90
  t72 := Tryd.underlying93
  a72 := Tryd.isAgg93
  z72 := Tryd.sizeOf93
  v72 := Tryd.zeroValue93
  t75 := Tryd.underlying96
  a75 := Tryd.isAgg96
  z75 := Tryd.sizeOf96
  v75 := Tryd.zeroValue96
  t76 := Tryd.underlying97
  a76 := Tryd.isAgg97
  z76 := Tryd.sizeOf97
  v76 := Tryd.zeroValue97
  t127 := Tryd.underlying129
  a127 := Tryd.isAgg129
  z127 := Tryd.sizeOf129
  v127 := Tryd.zeroValue129
  t164 := Tryd.underlying149
  a164 := Tryd.isAgg149
  z164 := Tryd.sizeOf149
  v164 := Tryd.zeroValue149 }
theorem Tryd.Builder_Extra_156 : Builder.Extra Tryd.prog Tryd.lays156_ren := {
  sizeBuilder := by kernel_rfl
  liesBuilder := by kernel_rfl
  t5 := Tryd.underlying5
  a5 := Tryd.isAgg5
  z5 := Tryd.sizeOf5
  v5 := Tryd.zeroValue5
  infoByte := by kernel_rfl
  cellsByte := by kernel_rfl
  sizeByte := by kernel_rfl
  neB5 := by decide }
open Go.RowKit in
/-- No element: the empty string; the world is as it was. (Whatever the slice's address and capacity: a nil slice too.) (LAID: no walk: one application.) -/
theorem Tryd.strings_Join_none (a : Option Addr) (c : Nat) (sep : ByteArray) (w : World) :
    Calls Tryd.prog 23 #[.slice a 0 c, .string sep] w fun e w' => e = .returned (.string ⟨#[]⟩) ∧ w' = w := Any.strings_Join_none Tryd.lays156 Tryd.Builder_Extra_156 a c sep w
open Go.RowKit in
/-- strings.Join: "Join concatenates the elements of its first argument to create a single string. The separator string sep is placed between elements in the resulting string.": HOWEVER MANY ELEMENTS. Below the heap's end the world is as it was. (LAID: no walk: one application.) -/
theorem Tryd.strings_Join (bk o c : Nat) (xs : List ByteArray) (sep : ByteArray) (w : World) (hcells : ∀ (j : Nat) x, xs[j]? = some x → w.cell? ⟨bk, o + j, none⟩ = some (.string x)) (hbk : bk < w.heap.size) (hN : xs.length ≤ 140737488355328) (hcap : xs.length ≤ c) (hlen : (Lib.join (xs.map (·.data.toList)) sep.data.toList).length ≤ 140737488355328) :
    Calls Tryd.prog 23 #[.slice (some ⟨bk, o, none⟩) xs.length c, .string sep] w fun e w' => e = .returned (.string ⟨(Lib.join (xs.map (·.data.toList)) sep.data.toList).toArray⟩) ∧ Below w.heap.size w w' := Any.strings_Join Tryd.lays156 Tryd.Builder_Extra_156 bk o c xs sep w hcells hbk hN hcap hlen
def Tryd.laysM173_ren : Go.Shelf.Ren := ⟨fun | 173 => 49 | 246 => 77 | 283 => 105 | 284 => 106 | 285 => 107 | 286 => 108 | 129 => 119 | 317 => 118 | 318 => 120 | 319 => 121 | 320 => 122 | 337 => 125 | 338 => 126 | n => n, fun | 2 => 2 | 3 => 3 | 9 => 9 | 4 => 4 | 171 => 143 | 0 => 0 | 53 => 144 | 37 => 91 | 5 => 5 | 173 => 147 | 212 => 160 | 51 => 161 | 20 => 20 | 213 => 162 | 46 => 164 | 232 => 169 | 233 => 170 | n => n, fun | 17 => 0 | 18 => 2 | 19 => 3 | n => n⟩
theorem Tryd.laysM173 : Go.Proofs.LaysM.n173 Tryd.prog Tryd.laysM173_ren := {
  mixed := by kernel_rfl
  f129 := Tryd.func119.trans (congrArg some (by kernel_rfl))
  f173 := Tryd.func49.trans (congrArg some (by kernel_rfl))
  f246 := Tryd.func77.trans (congrArg some (by kernel_rfl))
  f283 := Tryd.func105.trans (congrArg some (by kernel_rfl))
  f284 := Tryd.func106.trans (congrArg some (by kernel_rfl))
  f285 := Tryd.func107.trans (congrArg some (by kernel_rfl))
  f286 := Tryd.func108.trans (congrArg some (by kernel_rfl))
  f317 := Tryd.func118.trans (congrArg some (by kernel_rfl))
  f318 := Tryd.func120.trans (congrArg some (by kernel_rfl))
  f319 := Tryd.func121.trans (congrArg some (by kernel_rfl))
  f320 := Tryd.func122.trans (congrArg some (by kernel_rfl))
  f337 := Tryd.func125.trans (congrArg some (by kernel_rfl))
  f338 := Tryd.func126.trans (congrArg some (by kernel_rfl))
  t0 := Tryd.underlying0
  a0 := Tryd.isAgg0
  z0 := Tryd.sizeOf0
  v0 := Tryd.zeroValue0
  t2 := Tryd.underlying2
  a2 := Tryd.isAgg2
  z2 := Tryd.sizeOf2
  v2 := Tryd.zeroValue2
  t3 := Tryd.underlying3
  a3 := Tryd.isAgg3
  z3 := Tryd.sizeOf3
  v3 := Tryd.zeroValue3
  t4 := Tryd.underlying4
  a4 := Tryd.isAgg4
  z4 := Tryd.sizeOf4
  v4 := Tryd.zeroValue4
  t5 := Tryd.underlying5
  a5 := Tryd.isAgg5
  z5 := Tryd.sizeOf5
  v5 := Tryd.zeroValue5
  t9 := Tryd.underlying9
  a9 := Tryd.isAgg9
  z9 := Tryd.sizeOf9
  v9 := Tryd.zeroValue9
  t20 := Tryd.underlying20
  a20 := Tryd.isAgg20
  z20 := Tryd.sizeOf20
  v20 := Tryd.zeroValue20
  t37 := Tryd.underlying91
  a37 := Tryd.isAgg91
  z37 := Tryd.sizeOf91
  v37 := Tryd.zeroValue91
  t46 := Tryd.underlying164
  a46 := Tryd.isAgg164
  z46 := Tryd.sizeOf164
  v46 := Tryd.zeroValue164
  t51 := Tryd.underlying161
  a51 := Tryd.isAgg161
  z51 := Tryd.sizeOf161
  v51 := Tryd.zeroValue161
  t53 := Tryd.underlying144
  a53 := Tryd.isAgg144
  z53 := Tryd.sizeOf144
  v53 := Tryd.zeroValue144
  t171 := Tryd.underlying143
  a171 := Tryd.isAgg143
  z171 := Tryd.sizeOf143
  v171 := Tryd.zeroValue143
  t173 := Tryd.underlying147
  a173 := Tryd.isAgg147
  z173 := Tryd.sizeOf147
  v173 := Tryd.zeroValue147
  t212 := Tryd.underlying160
  a212 := Tryd.isAgg160
  z212 := Tryd.sizeOf160
  v212 := Tryd.zeroValue160
  t213 := Tryd.underlying162
  a213 := Tryd.isAgg162
  z213 := Tryd.sizeOf162
  t232 := Tryd.underlying169
  a232 := Tryd.isAgg169
  z232 := Tryd.sizeOf169
  v232 := Tryd.zeroValue169
  t233 := Tryd.underlying170
  a233 := Tryd.isAgg170
  z233 := Tryd.sizeOf170
  v233 := Tryd.zeroValue170
  g17 := by kernel_rfl
  g18 := by kernel_rfl
  g19 := by kernel_rfl
  i0 := by kernel_rfl
  i2 := by kernel_rfl
  i3 := by kernel_rfl
  i4 := by kernel_rfl
  i5 := by kernel_rfl
  i9 := by kernel_rfl
  i20 := by kernel_rfl
  i37 := by kernel_rfl
  i46 := by kernel_rfl
  i51 := by kernel_rfl
  i53 := by kernel_rfl
  i171 := by kernel_rfl
  i173 := by kernel_rfl
  i212 := by kernel_rfl
  i232 := by kernel_rfl
  i233 := by kernel_rfl
  m17 := by kernel_rfl
  m18 := by kernel_rfl
  m19 := by kernel_rfl }
open Go.RowKit Go.Sort Go.Lib in
/-- strconv.FormatInt: "FormatInt returns the string representation of i in the given base": AT BASE 10: i's decimal numeral, for every int64. (LAID: no walk: one application.) -/
theorem Tryd.strconv_FormatInt_10 (n : Int) (h0 : -9223372036854775808 ≤ n) (h1 : n ≤ 9223372036854775807) (w : World) (htab : Lib.TabIs Tryd.prog w "internal/strconv.uint64pow10" .u64 Lib.pow10Tab) :
    Calls Tryd.prog 49 #[.int .i64 n, .int .i64 10] w fun e w' => e = .returned (.string ⟨(Lib.itoa n).toArray⟩) ∧ ∃ k os, w' = grow (w.drewN k) os := Any.strconv_FormatInt_10 Tryd.laysM173 n h0 h1 w htab
end Go.Proofs

/- Walks: PolyText of the program; numerals and joins are the library's, by the shelf's contracts. -/
namespace Go.Proofs.YtnomnaojondffaaDoor
open Go.RowKit Plain

/-- the table that the library's numerals read -/
def TabP (w : World) : Prop := Lib.TabIs Tryd.prog w "internal/strconv.uint64pow10" .u64 Lib.pow10Tab
theorem grown_below' (w : World) (q : Nat) (os : Array Obj) : Below w.heap.size w (Go.Sort.grow (w.drewN q) os) :=
  ⟨rfl, rfl, rfl, by first | (simp [Go.Sort.grow]; done) | (simp [Go.Sort.grow]; omega), fun i hi => by
    show ((w.drewN q).heap ++ os)[i]? = _
    rw [Array.getElem?_append_left (by show i < w.heap.size; omega)]
    rfl⟩
theorem decI_any (a : Int) (w : World) (a0 : 0 ≤ a) (a1 : a ≤ 1000000000) (ht : TabP w) :
    Calls Tryd.prog 22 #[.int .i64 a] w fun e w' => e = .returned (.string (decB a.toNat)) ∧ Below w.heap.size w w' := by
  have HC : Hid (Calls Tryd.prog 49 #[.int .i64 a, .int .i64 10] w fun e w' => e = .returned (.string (decB a.toNat)) ∧ Below w.heap.size w w') :=
    (Tryd.strconv_FormatInt_10 a (by omega) (by omega) w ht).mono fun e w' ⟨he, q, os, hw⟩ => by
      refine ⟨?_, by rw [hw]; exact grown_below' w q os⟩
      rw [he]
      unfold decB Go.Lib.itoa
      rw [if_neg (by omega)]
  go_enter Tryd.func22, Tryd.ntmps22
  go_wp2_with (go_at_call 49; refine HC.out.mono ?_; rintro e w1 ⟨rfl, hb1⟩)
  go_ret
  exact ⟨rfl, hb1⟩

theorem tabGlob0 : (Tryd.prog.globalNamed "internal/strconv.uint64pow10").isSome = true := by kernel_rfl
theorem tabGlob : ∃ g, Tryd.prog.globalNamed "internal/strconv.uint64pow10" = some g := Option.isSome_iff_exists.1 tabGlob0
theorem TabP.below {w w' : World} (h : TabP w) (hb : Below w.heap.size w w') : TabP w' := by
  obtain ⟨g, hg⟩ := tabGlob
  show Lib.TabIs _ _ _ _ _
  exact Go.Joins.tab_stays (w := w) (B := w.heap.size) hg h hb (Nat.le_refl _)

theorem Tryd.infoStr : (Tryd.prog.info? 9).map (fun i => (i.zero, i.size, i.bytes)) = some (some (.string ⟨#[]⟩), 1, 16) := by kernel_rfl
/-- an own row of texts -/
def StrRow (w : World) (base : Nat) (v : Value) (l : List ByteArray) : Prop := w.ownsRow base 9 1 v l.length (l.map Value.string)
theorem StrRow.lt {w : World} {base : Nat} {v : Value} {l : List ByteArray} (h : StrRow w base v l) {q : Nat} (hq : v.ownBlock = some q) : base ≤ q ∧ q < w.heap.size := World.ownsRow.lt h q hq
theorem StrRow.keep {w w' : World} {base : Nat} {v : Value} {l : List ByteArray} (h : StrRow w base v l) (hb : Below w.heap.size w w') : StrRow w' base v l := by
  refine ⟨h.1, ?_⟩
  rcases h.2 with hn | ⟨g, cap, cur, rfl, hb', hgg, rest⟩
  · exact .inl hn
  · exact .inr ⟨g, cap, cur, rfl, hb', by rw [hb.block g (StrRow.lt h rfl).2]; exact hgg, rest⟩
theorem StrRow.form {w : World} {base : Nat} {v : Value} {l : List ByteArray} (h : StrRow w base v l) : ∃ A cap, v = .slice A l.length cap := by
  rcases h.2 with ⟨hv, h0⟩ | ⟨g, cap, _, hv, _⟩
  · exact ⟨none, 0, by rw [hv, h0]⟩
  · exact ⟨_, _, hv⟩
theorem StrRow.push {w2 : World} {base : Nat} {v2 : Value} {l : List ByteArray} {x : ByteArray} {n : Nat} (hn : n = l.length) (hown : w2.ownsRow base 9 1 v2 (n + 1) (l.map Value.string ++ [.string x])) : StrRow w2 base v2 (l ++ [x]) := by
  unfold StrRow
  rw [List.map_append, List.length_append, ← hn]
  exact hown
theorem StrRow.ownN {w : World} {base : Nat} {v : Value} {l : List ByteArray} (h : StrRow w base v l) {n : Nat} (hn : n = l.length) : w.ownsRow base 9 1 v n (l.map Value.string) := by rw [hn]; exact h
/-- what a join reads -/
theorem StrRow.cells {w : World} {base cap : Nat} {A : Option Addr} {l : List ByteArray} (h : StrRow w base (.slice A l.length cap) l) (h0 : 0 < l.length) : ∃ g, A = some ⟨g, 0, none⟩ ∧ g < w.heap.size ∧ ∀ (j : Nat) x, l[j]? = some x → w.cell? ⟨g, 0 + j, none⟩ = some (.string x) := by
  obtain ⟨g, cap', hv, hb, hlt⟩ := World.ownsRow.form h h0
  have hA : A = some ⟨g, 0, none⟩ := by injection hv
  have hc : cap = cap' := by injection hv
  subst hA
  subst hc
  refine ⟨g, rfl, hlt, fun j x hx => ?_⟩
  have hj : j < l.length := (List.getElem?_eq_some_iff.1 hx).1
  rw [Nat.zero_add, World.ownsRow.cellAt h j (by omega)]
  simp [hx]
theorem StrRow.cap {w : World} {base cap : Nat} {A : Option Addr} {l : List ByteArray} (h : StrRow w base (.slice A l.length cap) l) : l.length ≤ cap := by
  rcases h.2 with ⟨_, h0⟩ | ⟨g, cap', _, hv, _, _, h1, _⟩
  · omega
  · have hc : cap = cap' := by injection hv
    omega
theorem take_tmB {ts : List Term'} {k : Nat} (h : k < ts.length) : (ts.take (k + 1)).map tmB = (ts.take k).map tmB ++ [tmB (tmAt ts k)] := by
  rw [take_snoc' ts k _ (tm_get h), List.map_append]; rfl
theorem len_take_tmB {ts : List Term'} {k : Nat} (h : k ≤ ts.length) : ((ts.take k).map tmB).length = k := by simp; omega

set_option maxRecDepth 100000 in
set_option maxHeartbeats 1000000 in
theorem polyTextI {A : Option Addr} {cap : Nat} (u : Int) (ts : List Term') (w : World) (hT : TmsAt w A ts) (tl : ts.length ≤ 1048576) (tt : totT ts ≤ 1048576) (htab : TabP w) :
    Calls Tryd.prog 8 #[poV u A ts.length cap] w (Rett (polyB u ts) w) := by
  obtain ⟨i0, hi, hz0, hz1, hz2⟩ := info_parts Tryd.infoStr
  have hg : Below w.heap.size w (w.alloc (.cells #[.int .i64 u, .slice A ts.length cap] 29)) := by go_grown
  have HC := Lib.hid (polyI_any u A cap ts (w.alloc (.cells #[.int .i64 u, .slice A ts.length cap] 29)) (hT.below hg) tl tt)
  have HT := Lib.hid hT
  have HTAB := Lib.hid htab
  clear hT htab
  cases hok : polyOk u ts
  · have HV := Lib.hid (polyB_bad hok)
    rw [HV.out]
    rw [hok] at HC
    clear hok hg
    go_enter Tryd.func8, Tryd.ntmps8
    go_wp2_with (go_at_call 21; refine HC.out.mono ?_; rintro e w1 ⟨rfl, hb1⟩)
    go_ret
    exact ⟨(poBox hb1).2.2, rfl⟩
  have HOK := Lib.hid hok
  have ht120 := (polyOk_size hok).2.2
  rw [hok] at HC
  clear hok hg
  go_enter Tryd.func8, Tryd.ntmps8
  go_wp2_with fail
  refine HC.out.mono ?_; rintro e w1 ⟨rfl, hb1⟩
  obtain ⟨q0, q1, hb⟩ := poBox hb1
  have q1' : (w1.alloc (.cells #[] 9)).cell? ⟨w.heap.size, 1, none⟩ = some (.slice A ts.length cap) := by rw [World.cell?_alloc_lt _ _ _ (World.block_lt_of_cell? _ _ q1)]; exact q1
  have HB1 : Hid (Below w.heap.size w (w1.alloc (.cells #[] 9))) := bnext hb (by go_grown)
  have HR0 : Hid (StrRow (w1.alloc (.cells #[] 9)) w1.heap.size (.slice (some ⟨w1.heap.size, 0, none⟩) 0 0) ((ts.take 0).map tmB)) :=
    World.ownsRow_lit w1 #[] 0 (Nat.le_refl _) (by unfold maxLen; omega) (by rfl)
  have hw1s := hb.size
  clear hb1 HC hb q0
  go_wp2
  go_loopw [3, 16] (fun o i wr => ∃ (k : Nat) (Av : Option Addr) (cp : Nat), k ≤ ts.length ∧ i = .int .i64 (k : Int) ∧ o = .slice Av k cp ∧ Hid (StrRow wr w1.heap.size (.slice Av k cp) ((ts.take k).map tmB)) ∧ Hid (Below w.heap.size w wr) ∧ w1.heap.size ≤ wr.heap.size) (fun _ i _ => ts.length - (intOf i).toNat)
  case atStart => exact ⟨0, _, _, by omega, by go_num, rfl, HR0.out, HB1.out, by simp⟩
  case round =>
    obtain ⟨k, Av, cp, hk, rfl, rfl, HR, HB, hws⟩ := hrel
    by_cases hlt : k < ts.length
    · obtain ⟨bt, ot, Ai, ca, rfl, hbt, hc0, hc20, hi2, _⟩ := HT.out.at_ hlt
      have hc : wr.cell? ⟨bt, ot + k * 2, none⟩ = some (.slice Ai (tmAt ts k).1.length ca) := (HB.out.cell (p := ⟨bt, _, none⟩) hbt).trans hc0
      have hc2 : wr.cell? ⟨bt, ot + k * 2 + 1, none⟩ = some (.int .i64 (tmAt ts k).2) := (HB.out.cell (p := ⟨bt, _, none⟩) hbt).trans hc20
      clear hc0 hc20
      have hp := termOk_parts (polyOk_term HOK.out hlt)
      have hl12 : (tmAt ts k).1.length ≤ 12 := by have := polyOk_size HOK.out; omega
      have hkl : (k : Int) < (ts.length : Int) := by omega
      have HTM : Hid (tmB (tmAt ts k) = termB (tmAt ts k).2 (tmAt ts k).1 (tmAt ts k).1.length) := rfl
      obtain ⟨es, hes⟩ : ∃ es, es = (tmAt ts k).1 := ⟨_, rfl⟩
      have hok := hp.2.2.2.1
      have c0 : 0 ≤ (tmAt ts k).2 := by omega
      have c1 := hp.2.2.1
      rw [← hes] at HTM hi2 hc hl12 hok
      generalize (tmAt ts k).2 = c at *
      have HEO := Lib.hid hok
      have hg3 : Below wr.heap.size wr (wr.alloc (.cells #[.slice Ai es.length ca, .int .i64 c] 53)) := by go_grown
      have hTB : Cells (wr.alloc (.cells #[.slice Ai es.length ca, .int .i64 c] 53)) wr.heap.size 53 [.slice Ai es.length ca, .int .i64 c] := Cells.new wr _ _
      have HI0 := Lib.hid hi2
      clear hes hp hok hi2
      go_wp2_with fail
      refine (decI_any c _ c0 (by omega) ((HTAB.out.below HB.out).below hg3)).mono ?_; rintro e w3 ⟨rfl, hb3⟩
      have hb3' := bnext hg3 hb3
      have y0 : w3.cell? ⟨wr.heap.size, 0, none⟩ = some (.slice Ai es.length ca) := by rw [(hTB.next hb3).cell]; rfl
      have HB3 := Lib.hid (bnext HB.out hb3')
      have HR3 := Lib.hid (HR.out.keep hb3')
      have hws3 : w1.heap.size ≤ w3.heap.size := Nat.le_trans hws hb3'.size
      have H00 : Hid (decB c.toNat = termB c es 0) := rfl
      rw [H00.out]
      clear hb3 hb3' hg3 hTB hc hc2
      clear HR HB hws
      go_wp2
      go_loopw [6, 26] (fun t i wr => ∃ (v : Nat), v ≤ es.length ∧ i = .int .i64 (v : Int) ∧ t = .string (termB c es v) ∧ Hid (Below w.heap.size w wr) ∧ Hid (StrRow wr w1.heap.size (.slice Av k cp) ((ts.take k).map tmB)) ∧ w1.heap.size ≤ wr.heap.size) (fun _ i _ => es.length - (intOf i).toNat)
      case atStart => exact ⟨0, by omega, by go_num, rfl, HB3.out, HR3.out, hws3⟩
      case round =>
        obtain ⟨v, hv, rfl, rfl, HB2, HR2, hws2⟩ := hrel
        have hsz := (termB_size c0 c1 HEO.out v (by omega)).1
        have hsz2 : (termB c es v).size ≤ 300 := by omega
        clear hsz
        by_cases hvl : v < es.length
        · obtain ⟨ba, oa, rfl, hba, hca⟩ := (HI0.out.below HB2.out).cfAt (by omega)
          have hc1 := hca v hvl
          have hvl' : (v : Int) < (es.length : Int) := by omega
          have heb1 := (expsOk_bd HEO.out v).2
          have HTT : Hid (termB c es (v + 1) = if 0 < cf es v then termB c es v ++ (((⟨#[42, 120]⟩ ++ decB v) ++ ⟨#[94]⟩) ++ decB (cf es v).toNat) else termB c es v) := rfl
          obtain ⟨x, hx⟩ : ∃ x, x = cf es v := ⟨_, rfl⟩
          rw [← hx] at hc1 HTT heb1
          obtain ⟨s, hs⟩ : ∃ s, s = termB c es v := ⟨_, rfl⟩
          rw [← hs] at HTT hsz2 ⊢
          clear hca hx hs
          by_cases hx0 : 0 < x
          · have HT2 : Hid (termB c es (v + 1) = s ++ (((⟨#[42, 120]⟩ ++ decB v) ++ ⟨#[94]⟩) ++ decB x.toNat)) := by show _ = _; rw [HTT.out, if_pos hx0]
            have HTW := Lib.hid (HTAB.out.below HB2.out)
            have HD1 : Hid (Calls Tryd.prog 22 #[.int .i64 (v : Int)] wr fun e w' => e = .returned (.string (decB v)) ∧ Below wr.heap.size wr w') := by
              have := decI_any v wr (by omega) (by omega) HTW.out
              rwa [Int.toNat_natCast] at this
            have HD2 : Hid (∀ wx, Below wr.heap.size wr wx → Calls Tryd.prog 22 #[.int .i64 x] wx fun e w' => e = .returned (.string (decB x.toNat)) ∧ Below wx.heap.size wx w') := fun wx hb =>
              decI_any x wx (by omega) (by omega) (HTW.out.below hb)
            have z1 := decB_size9 (n := v) (by omega)
            have z2 := decB_size9 (n := x.toNat) (by omega)
            generalize decB v = d1 at *
            generalize decB x.toNat = d2 at *
            clear HTT
            go_wp2_with fail
            refine HD1.out.mono ?_; rintro e w4 ⟨rfl, hb4⟩
            go_wp2_with fail
            refine (HD2.out w4 hb4).mono ?_; rintro e w5 ⟨rfl, hb5⟩
            have hb45 := bnext hb4 hb5
            have HB5 := Lib.hid (bnext HB2.out hb45)
            have HR5 := Lib.hid (HR2.out.keep hb45)
            have hws5 : w1.heap.size ≤ w5.heap.size := Nat.le_trans hws2 hb45.size
            clear hb4 hb5 hb45
            go_wp2
            go_roundw
            case rel => exact ⟨v + 1, by omega, by go_num, by rw [HT2.out], HB5.out, HR5.out, hws5⟩
            case measure => simp [intOf]; omega
          · have HT2 : Hid (termB c es (v + 1) = s) := by show _ = _; rw [HTT.out, if_neg hx0]
            clear HTT
            go_wp2
            go_roundw
            case rel => exact ⟨v + 1, by omega, by go_num, by rw [HT2.out], HB2.out, HR2.out, hws2⟩
            case measure => simp [intOf]; omega
        · obtain rfl : v = es.length := by omega
          have HLL := Lib.hid (len_take_tmB (ts := ts) (k := k) (by omega))
          have HTK : Hid ((ts.take (k + 1)).map tmB = (ts.take k).map tmB ++ [termB c es es.length]) := by show _ = _; rw [take_tmB hlt, HTM.out]
          have HLL1 := Lib.hid (len_take_tmB (ts := ts) (k := k + 1) (by omega))
          generalize (ts.take k).map tmB = l at *
          generalize termB c es es.length = s at *
          have hbs := HB2.out.size
          go_wp2_with (at_builtin; refine wpList_append_own _ rfl _ _ 56 rfl w1.heap.size 9 i0 (.string ⟨#[]⟩) 1 16 Tryd.underlying56 hi hz0 hz1 hz2 rfl (by decide) _ k _ rfl ((HR2.out.ownN HLL.out.symm).alloc _) ⟨wr.heap.size, 0, none⟩ 1 1 [.string s] rfl rfl ?c1 ?c2 ?c3 ?c4 ?c5 ?_)
          try (case c1 => intro j u hj; match j with | 0 => (simp at hj; subst hj; simp [addr_add]) | j + 1 => simp at hj)
          try (case c2 => first | rfl | (intro u hu; simp at hu; subst hu; rfl) | (simp; done))
          case c3 => unfold maxLen; omega
          case c4 => omega
          case c5 => first | omega | (simp; omega) | (simp; done)
          intro v2 w2 hown hg2 _
          have HR3' : StrRow w2 w1.heap.size v2 (l ++ [s]) := StrRow.push HLL.out.symm hown
          obtain ⟨A2, cp2, hv2⟩ := HR3'.form
          rw [show (l ++ [s]).length = k + 1 by simp [HLL.out]] at hv2
          subst hv2
          have hb1 : Below wr.heap.size wr (wr.alloc (.cells #[.string s] 9)) := by go_grown
          have HB6 : Hid (Below w.heap.size w w2) := (bnext HB2.out hb1).grown hg2 (Nat.le_trans HB2.out.size hb1.size) (fun q hq => by have := (HR2.out.lt hq).1; omega)
          have HR3 := Lib.hid HR3'
          have hw2s : w1.heap.size ≤ w2.heap.size := by have := hg2.size; have := hb1.size; omega
          clear HR3' hown hg2 hb1 hbs
          go_wp2
          go_roundw
          case rel => exact ⟨k + 1, A2, cp2, by omega, by go_num, rfl, by rw [HTK.out]; exact HR3, HB6.out, hw2s⟩
          case measure => simp [intOf]; omega
    · obtain rfl : k = ts.length := by omega
      rcases Nat.eq_zero_or_pos ts.length with hz | hz
      · have HV := Lib.hid (polyB_zero HOK.out hz)
        have hzi : ((ts.length : Int) == 0) = true := by rw [hz]; rfl
        go_wp2
        go_ret
        exact ⟨HB.out, by rw [HV.out]; rfl⟩
      · have HV := Lib.hid (polyB_ok HOK.out hz)
        have hzi : ((ts.length : Int) == 0) = false := beq_eq_false_iff_ne.2 (by omega)
        rw [List.take_length] at HR
        have hlm : (ts.map tmB).length = ts.length := by simp
        have hr := HR.out
        rw [show Value.slice Av ts.length cp = Value.slice Av (ts.map tmB).length cp by rw [hlm]] at hr
        have hr0 := hr
        obtain ⟨g, rfl, hgl, hcells⟩ := hr.cells (by rw [hlm]; exact hz)
        have hj := outB_join ts ts.length (Nat.le_refl _)
        rw [List.take_length] at hj
        have hos := (outB_size HOK.out ts.length (Nat.le_refl _)).1
        have hjl : (Lib.join ((ts.map tmB).map (·.data.toList)) (⟨#[32, 43, 32]⟩ : ByteArray).data.toList).length ≤ 140737488355328 := by
          have h2 : (outB ts ts.length).size = (Lib.join ((ts.map tmB).map (·.data.toList)) (⟨#[32, 43, 32]⟩ : ByteArray).data.toList).length := by
            rw [hj, List.map_map]; simp [ByteArray.size]; rfl
          omega
        have hcap : (ts.map tmB).length ≤ cp := hr0.cap
        have HJ := Lib.hid (Tryd.strings_Join g 0 cp (ts.map tmB) ⟨#[32, 43, 32]⟩ wr hcells hgl (by omega) hcap hjl)
        rw [hlm] at HJ
        have HE : Hid ((⟨(Lib.join ((ts.map tmB).map (·.data.toList)) (⟨#[32, 43, 32]⟩ : ByteArray).data.toList).toArray⟩ : ByteArray) = polyB u ts) := by
          show _ = _
          rw [HV.out, hj, List.map_map]
          rfl
        rw [HE.out] at HJ
        clear hr hr0 hcells hj hos hjl hcap HV
        go_wp2_with (go_at_call 23; refine HJ.out.mono ?_; rintro e w7 ⟨rfl, hb7⟩)
        go_ret
        exact ⟨bnext HB.out hb7, rfl⟩

end Go.Proofs.YtnomnaojondffaaDoor

/- The walk of the law FnExactPolyText. -/
namespace Go.Proofs.YtnomnaojondffaaDoor
open Go.RowKit Plain

set_option maxRecDepth 100000 in
set_option maxHeartbeats 1000000 in
theorem lawExactPolyText_0 (u0 : Int) (A0 : Option Addr) (cap0 : Nat) (T0 : List Term') (w : World) (h0 : TmsAt w A0 T0) (hm0 : T0.length ≤ 9223372036854775807)  (c0 : ¬ tmSize T0 ≤ 1048576) :
    Calls Tryd.prog 3 #[poV u0 A0 T0.length cap0] w fun e w' => e = .returned (.bool true) ∧ Below w.heap.size w w' := by
  have C0 := Lib.hid c0; clear c0
  have S0 := Lib.hid h0; clear h0
  have HM0 : T0.length ≤ 9223372036854775807 := by have := hm0; omega
  have HB0 : Hid (Below w.heap.size w (w.alloc (.cells #[.int .i64 u0, .slice A0 T0.length cap0] 24))) := by show Below _ _ _; go_grown
  go_enter Tryd.func3, Tryd.ntmps3
  go_wp2_with fail
  refine (szPoly_any u0 A0 cap0 T0 1048576 _ (S0.out.below HB0.out) (by omega) (by omega) (by omega)).mono ?_; rintro e w1 ⟨rfl, hb1⟩
  have HB1 := Lib.hid (bnext HB0.out hb1); clear hb1
  rw [szV_no (by have := C0.out; omega)]
  go_wp2
  go_ret
  exact ⟨rfl, HB1.out⟩

set_option maxRecDepth 100000 in
set_option maxHeartbeats 8000000 in
theorem lawExactPolyText_ok (u0 : Int) (A0 : Option Addr) (cap0 : Nat) (T0 : List Term') (w : World) (h0 : TmsAt w A0 T0) (_hm0 : T0.length ≤ 9223372036854775807) (htab : TabP w) (c0 : tmSize T0 ≤ 1048576) :
    Calls Tryd.prog 3 #[poV u0 A0 T0.length cap0] w fun e w' => e = .returned (.bool true) ∧ Below w.heap.size w w' := by
  have C0 := Lib.hid c0; clear c0
  have S0 := Lib.hid h0; clear h0
  have Z0 : Hid (tmSize T0 ≤ 1048576) := by have := C0.out; show _ ≤ _; omega
  have tl0 : T0.length ≤ 1048576 := by have := Z0.out; unfold tmSize at this; omega
  have tt0 : totT T0 ≤ 1048576 := by have := Z0.out; unfold tmSize at this; omega
  obtain ⟨v0, hv0⟩ : ∃ v : ByteArray, v = polyB u0 T0 := ⟨_, rfl⟩
  have V0 := Lib.hid hv0; clear hv0
  have HTAB := Lib.hid htab; clear htab
  have HB0 : Hid (Below w.heap.size w (w.alloc (.cells #[.int .i64 u0, .slice A0 T0.length cap0] 24))) := by show Below _ _ _; go_grown
  have HS0 := Lib.hid HB0.out.size
  have BX0_0 : Hid (Reg (w.alloc (.cells #[.int .i64 u0, .slice A0 T0.length cap0] 24)) (w.heap.size) (w.heap.size + 1) (fun w' => Cells w' (w.heap.size) 24 [.int .i64 u0, .slice A0 T0.length cap0])) := regBox (Cells.new w 24 [.int .i64 u0, .slice A0 T0.length cap0])
  have HQB0 := Lib.hid BX0_0.out.size
  go_enter Tryd.func3, Tryd.ntmps3
  have qBX0_0 : World.cell? (w.alloc (.cells #[.int .i64 u0, .slice A0 T0.length cap0] 24)) ⟨w.heap.size, 0, none⟩ = some (.int .i64 u0) := by rw [BX0_0.out.now.cell]; rfl
  have qBX0_1 : World.cell? (w.alloc (.cells #[.int .i64 u0, .slice A0 T0.length cap0] 24)) ⟨w.heap.size, 1, none⟩ = some (.slice A0 T0.length cap0) := by rw [BX0_0.out.now.cell]; rfl
  go_wp2_with fail
  refine (szPoly_any u0 A0 cap0 T0 1048576 _ (S0.out.below HB0.out) (by omega) (by omega) (by omega)).mono ?_; rintro e w1 ⟨rfl, hb1⟩
  clear qBX0_0 qBX0_1
  have HB1 := Lib.hid (bnext HB0.out hb1)
  have BX0_1 := Lib.hid (BX0_0.out.below hb1); clear BX0_0
  have HS1 := Lib.hid hb1.size
  clear hb1
  rw [szV_yes (by have := C0.out; omega)]
  obtain ⟨l0, hlv0⟩ : ∃ l0 : Int, l0 = 1048576 - tmSize T0 := ⟨_, rfl⟩
  rw [← hlv0]
  have lo0 : 0 ≤ l0 := by have := C0.out; omega
  have hi0 : l0 ≤ 1048576 := by omega
  have HL0 := Lib.hid hlv0; clear hlv0
  have qBX0_0 : World.cell? w1 ⟨w.heap.size, 0, none⟩ = some (.int .i64 u0) := by rw [BX0_1.out.now.cell]; rfl
  have qBX0_1 : World.cell? w1 ⟨w.heap.size, 1, none⟩ = some (.slice A0 T0.length cap0) := by rw [BX0_1.out.now.cell]; rfl
  go_wp2_with fail
  refine (toPolyR u0 A0 cap0 T0 _ (S0.out.below HB1.out) tl0 tt0).mono ?_; rintro e w2 ⟨g2, hg2, rfl, hX2, hb2⟩
  clear qBX0_0 qBX0_1
  have HB2 := Lib.hid (bnext HB1.out hb2)
  have BX0_2 := Lib.hid (BX0_1.out.below hb2); clear BX0_1
  have HS2 := Lib.hid hb2.size
  clear hb2
  have HG2 := Lib.hid hg2; clear hg2
  have U0_2 := Lib.hid hX2; clear hX2
  have HQ2 := Lib.hid U0_2.out.le
  have qBX0_0 : World.cell? w2 ⟨w.heap.size, 0, none⟩ = some (.int .i64 u0) := by rw [BX0_2.out.now.cell]; rfl
  have qBX0_1 : World.cell? w2 ⟨w.heap.size, 1, none⟩ = some (.slice A0 T0.length cap0) := by rw [BX0_2.out.now.cell]; rfl
  go_wp2_with fail
  refine (polyTextS u0 T0 _ (regTms U0_2.out (by omega)) tl0 tt0).mono ?_
  rw [← V0.out]
  rintro e w3 ⟨hb3, rfl⟩
  clear U0_2
  clear qBX0_0 qBX0_1
  have HB3 := Lib.hid (bnext HB2.out hb3)
  have BX0_3 := Lib.hid (BX0_2.out.below hb3); clear BX0_2
  have HS3 := Lib.hid hb3.size
  clear hb3
  have qBX0_0 : World.cell? w3 ⟨w.heap.size, 0, none⟩ = some (.int .i64 u0) := by rw [BX0_3.out.now.cell]; rfl
  have qBX0_1 : World.cell? w3 ⟨w.heap.size, 1, none⟩ = some (.slice A0 T0.length cap0) := by rw [BX0_3.out.now.cell]; rfl
  go_wp2_with fail
  refine (toPolyR u0 A0 cap0 T0 _ (S0.out.below HB3.out) tl0 tt0).mono ?_; rintro e w4 ⟨g4, hg4, rfl, hX4, hb4⟩
  clear qBX0_0 qBX0_1
  have HB4 := Lib.hid (bnext HB3.out hb4)
  have BX0_4 := Lib.hid (BX0_3.out.below hb4); clear BX0_3
  have HS4 := Lib.hid hb4.size
  clear hb4
  have HG4 := Lib.hid hg4; clear hg4
  have X0_4 := Lib.hid hX4; clear hX4
  have HQ4 := Lib.hid X0_4.out.le
  have qBX0_0 : World.cell? w4 ⟨w.heap.size, 0, none⟩ = some (.int .i64 u0) := by rw [BX0_4.out.now.cell]; rfl
  have qBX0_1 : World.cell? w4 ⟨w.heap.size, 1, none⟩ = some (.slice A0 T0.length cap0) := by rw [BX0_4.out.now.cell]; rfl
  go_wp2_with fail
  clear qBX0_0 qBX0_1
  have hb5 : Below w4.heap.size w4 (w4.alloc (.cells #[.int .i64 u0, .slice (some ⟨g4, 0, none⟩) T0.length T0.length] 29)) := by go_grown
  have BC5 : Hid (Cells (w4.alloc (.cells #[.int .i64 u0, .slice (some ⟨g4, 0, none⟩) T0.length T0.length] 29)) w4.heap.size 29 [.int .i64 u0, .slice (some ⟨g4, 0, none⟩) T0.length T0.length]) := Cells.new w4 29 [.int .i64 u0, .slice (some ⟨g4, 0, none⟩) T0.length T0.length]
  change Calls _ _ _ (w4.alloc (.cells #[.int .i64 u0, .slice (some ⟨g4, 0, none⟩) T0.length T0.length] 29)) _
  generalize (w4.alloc (.cells #[.int .i64 u0, .slice (some ⟨g4, 0, none⟩) T0.length T0.length] 29)) = w5 at *
  have HB5 := Lib.hid (bnext HB4.out hb5)
  have BX0_5 := Lib.hid (BX0_4.out.below hb5); clear BX0_4
  have X0_5 := Lib.hid (X0_4.out.below hb5); clear X0_4
  have HS5 := Lib.hid hb5.size
  clear hb5
  have VX0_5 : Hid (Reg w5 w4.heap.size (w4.heap.size + 1) (fun w' => Cells w' w4.heap.size 29 [.int .i64 u0, .slice (some ⟨g4, 0, none⟩) T0.length T0.length])) := regBox BC5.out
  clear BC5
  have HQ5 := Lib.hid VX0_5.out.size
  have qBX0_0 : World.cell? w5 ⟨w.heap.size, 0, none⟩ = some (.int .i64 u0) := by rw [BX0_5.out.now.cell]; rfl
  have qBX0_1 : World.cell? w5 ⟨w.heap.size, 1, none⟩ = some (.slice A0 T0.length cap0) := by rw [BX0_5.out.now.cell]; rfl
  have qVX0_0 : World.cell? w5 ⟨w4.heap.size, 0, none⟩ = some (.int .i64 u0) := by rw [VX0_5.out.now.cell]; rfl
  have qVX0_1 : World.cell? w5 ⟨w4.heap.size, 1, none⟩ = some (.slice (some ⟨g4, 0, none⟩) T0.length T0.length) := by rw [VX0_5.out.now.cell]; rfl
  skip
  refine (polyTextI u0 T0 _ (regTms X0_5.out (by omega)) tl0 tt0 (HTAB.out.below HB5.out)).mono ?_
  rw [← V0.out]
  rintro e w6 ⟨hb6, rfl⟩
  clear qBX0_0 qBX0_1 qVX0_0 qVX0_1
  have HB6 := Lib.hid (bnext HB5.out hb6)
  have BX0_6 := Lib.hid (BX0_5.out.below hb6); clear BX0_5
  have X0_6 := Lib.hid (X0_5.out.below hb6); clear X0_5
  have VX0_6 := Lib.hid (VX0_5.out.below hb6); clear VX0_5
  have HS6 := Lib.hid hb6.size
  clear hb6
  have qBX0_0 : World.cell? w6 ⟨w.heap.size, 0, none⟩ = some (.int .i64 u0) := by rw [BX0_6.out.now.cell]; rfl
  have qBX0_1 : World.cell? w6 ⟨w.heap.size, 1, none⟩ = some (.slice A0 T0.length cap0) := by rw [BX0_6.out.now.cell]; rfl
  have qVX0_0 : World.cell? w6 ⟨w4.heap.size, 0, none⟩ = some (.int .i64 u0) := by rw [VX0_6.out.now.cell]; rfl
  have qVX0_1 : World.cell? w6 ⟨w4.heap.size, 1, none⟩ = some (.slice (some ⟨g4, 0, none⟩) T0.length T0.length) := by rw [VX0_6.out.now.cell]; rfl
  go_wp2_with fail
  have KT7 : Hid (∀ wx, Below w6.heap.size w6 wx → Calls Tryd.prog 7 #[poV u0 A0 T0.length cap0] wx fun e w' => ∃ g, wx.heap.size ≤ g ∧ e = .returned (poV u0 (some ⟨g, 0, none⟩) T0.length T0.length) ∧ RT w' g w'.heap.size (some ⟨g, 0, none⟩) T0 ∧ Below wx.heap.size wx w') := fun wx hx => toPolyR u0 A0 cap0 T0 wx (S0.out.below (bnext HB6.out hx)) tl0 tt0
  have KS7 := Lib.hid (And.intro qVX0_0 (And.intro qVX0_1 (And.intro qBX0_0 qBX0_1)))
  go_region_held3 (fun wx => wx.cell? ⟨w4.heap.size, 0, none⟩ = some (.int .i64 u0) ∧ wx.cell? ⟨w4.heap.size, 1, none⟩ = some (.slice (some ⟨g4, 0, none⟩) T0.length T0.length) ∧ wx.cell? ⟨w.heap.size, 0, none⟩ = some (.int .i64 u0) ∧ wx.cell? ⟨w.heap.size, 1, none⟩ = some (.slice A0 T0.length cap0)) (first | exact KS7.out | exact KS7.out | go_keep | exact keep4q KS7.out hb7 | exact keep4q KS7.out (hb7.trans (hb8.mono hb7.size)))
    (first
      | (go_at_call 9; have _tk := hX7; (with_reducible refine (eqPoly_any u0 _ _ _ _ T0 _ (regTms (X0_6.out.below hb7) (by omega)) (regTms hX7 (by omega)) (by omega) (by omega)).mono ?_); rintro e w8 ⟨rfl, hb8⟩)
      | (go_at_call 7; refine (KT7.out _ (by first | exact (Below.refl _ _).drew | exact below_drewN' (Below.refl _ _) _ | exact Below.refl _ _)).mono ?_; rintro e w7 ⟨g7, hg7, rfl, hX7, hb7'⟩; have hb7 : Below w6.heap.size w6 w7 := by first | exact bdrew hb7' | exact bdrewN hb7' | exact hb7'))
  clear hX7 hg7 hb7' KS7 KT7
  clear qBX0_0 qBX0_1 qVX0_0 qVX0_1
  have HB7 := Lib.hid (bnext HB6.out hb7)
  have BX0_7 := Lib.hid (BX0_6.out.below hb7); clear BX0_6
  have X0_7 := Lib.hid (X0_6.out.below hb7); clear X0_6
  have VX0_7 := Lib.hid (VX0_6.out.below hb7); clear VX0_6
  have HS7 := Lib.hid hb7.size
  clear hb7
  have HB8 := Lib.hid (bnext HB7.out hb8)
  have BX0_8 := Lib.hid (BX0_7.out.below hb8); clear BX0_7
  have X0_8 := Lib.hid (X0_7.out.below hb8); clear X0_7
  have VX0_8 := Lib.hid (VX0_7.out.below hb8); clear VX0_7
  have HS8 := Lib.hid hb8.size
  clear hb8
  go_wp2
  go_ret
  exact ⟨rfl, HB8.out⟩

theorem lawExactPolyText (u0 : Int) (A0 : Option Addr) (cap0 : Nat) (T0 : List Term') (w : World) (h0 : TmsAt w A0 T0) (hm0 : T0.length ≤ 9223372036854775807) (htab : TabP w) :
    Calls Tryd.prog 3 #[poV u0 A0 T0.length cap0] w fun e w' => e = .returned (.bool true) ∧ Below w.heap.size w w' := by
  by_cases c0 : tmSize T0 ≤ 1048576
  case neg => exact lawExactPolyText_0 u0 A0 cap0 T0 w h0 hm0 c0
  exact lawExactPolyText_ok u0 A0 cap0 T0 w h0 hm0 htab c0

end Go.Proofs.YtnomnaojondffaaDoor

/- FnExactPolyText: for every polynomial the program's PolyText returns what the reference's returns. No condition; the card ties the library's tables to the program's text. -/
namespace Go.Proofs.YtnomnaojondffaaDoor.fnExactPolyText
open Go.ChangeShapes Go.WideShapes Go.ChangeAt Go.RowKit

theorem own : ownKnob Tryd.prog.godebug = none := by kernel_rfl
theorem laidOut : laidOutB Tryd.prog = true := by kernel_rfl

/-- what the row's list gives: the third table -/
theorem tab {W : World} (h : laidMetH Tryd.prog Rows.fnExactPolyTextRow.laid W) : TabP W := by
  have h' : laidMet Tryd.prog Rows.fnExactPolyTextRow.laid W := h
  obtain ⟨ps, ⟨_, _, _, _, _, q1, _, _, _, _, ⟨_, _, _, _, _, q2, _, _, _, _, ⟨g', t', cs, fuel, p, q, hg', ht', hvar, hd, _⟩, _⟩, _⟩, _⟩ := h'
  have hg : Tryd.prog.globalNamed "internal/strconv.uint64pow10" = some 0 := by kernel_rfl
  obtain rfl := Option.some.inj (hg.symm.trans hg')
  have hty : (Tryd.prog.globals[0]?).map (·.type) = some 160 := by kernel_rfl
  obtain rfl := Option.some.inj (hty.symm.trans ht')
  show Lib.TabIs _ _ _ _ _
  unfold Lib.TabIs
  have hd' : DataW.trod (fun _ => ()) Tryd.prog W 0 (fun _ => true) false fuel 160 cs.toList = some (Lib.tabData .u64 Lib.pow10Tab, p) := hd
  rw [hvar, ← Lib.cells_of_tab Tryd.underlying160 Tryd.underlying144 (by kernel_rfl) (by kernel_rfl) hd']

set_option maxRecDepth 100000 in
theorem contract (H : Type) (enc : TypeId × Value → H) (W : World) (base : Nat) (args : Array Value) (ds gs : List (DataW H)) (before : List MemPlace)
    (hval0 : ∀ (j : Nat) t v, Tryd.f3.params[j]? = some t → args[j]? = some v → Value.okWide Tryd.prog W .any base t v)
    (hW : DataW.Whole enc Tryd.prog Tryd.f3.params.toList Rows.fnExactPolyTextSpec.vars false W args.toList ds gs before) (hL : laidMetH Tryd.prog Rows.fnExactPolyTextRow.laid W) :
    Calls Tryd.prog 3 args W fun e W' => ∃ v, e = .returned v ∧ Rows.fnExactPolyTextSpec.post enc Tryd.prog Tryd.f3 false true false false W args v W' := by
  have hval : ∀ (j : Nat) t v, Tryd.f3.params[j]? = some t → args[j]? = some v → Value.okWide Tryd.prog W .any base t v := hval0
  have hW' := hW
  obtain ⟨p, q, hA0, hV, rfl, hfz, hnd⟩ := hW
  have hA : DataW.TrodAll enc Tryd.prog W 0 (fun _ => true) true Tryd.f3.params.toList args.toList ds p := hA0
  rw [Tryd.params3] at hA hval
  obtain ⟨v0, vs0, d0, ds0, p0, q0, hargs, rfl, rfl, h0, r0⟩ := trodAll_cons hA
  obtain ⟨rfl, rfl, rfl⟩ := trodAll_nil r0
  obtain rfl : args = #[v0] := by cases args; simp_all
  obtain ⟨rfl, rfl⟩ := trodVars_none hV
  obtain ⟨cs0, rfl, _⟩ := okWide_struct Tryd.underlying24 (hval 0 24 v0 rfl rfl)
  have k0 := h0
  have lt0 : ∀ x ∈ p0, x.block < W.heap.size := by obtain ⟨m, hm⟩ := k0; exact DataW.trod_lt m _ _ _ hm
  obtain ⟨u0, a0, cap0, z0, e0, m0, w0⟩ : ∃ (u : Int) (A : Option Addr) (cap : Nat) (ts : List Term'), cs0 = #[.int .i64 u, .slice A ts.length cap] ∧ ts.length ≤ 9223372036854775807 ∧ TmsAt W A ts := by
    obtain ⟨fuel, hf⟩ := h0
    obtain ⟨u, A, cap, ts, hcs, h1, h2⟩ := open_poly hf
    exact ⟨u, A, cap, ts, by cases cs0; simpa [Value.cells] using hcs, h1, h2⟩
  subst e0
  clear hA0 hval0
  refine (lawExactPolyText u0 a0 cap0 z0 W w0 m0 (tab hL)).mono fun e W' ⟨he, bel⟩ => ?_
  subst he
  exact ⟨_, rfl, _, _, _, [], _, [], hW', trodAll_mk1 (shut_bool Tryd.underlying4 _), (trodAll_cons_mk (Below.trod laidOut (by kernel_rfl) (of_decide_eq_true (by kernel_rfl)) k0 bel lt0) trodAll_mk0), rfl, bel.frame _, fun h => by cases h⟩

/-- a world for the witness -/
def putTab (cs : Array Value) : Obj → Obj
  | .cells _ t frozen => .cells cs t frozen
  | o => o
noncomputable def laidWorld (os : Os) : World :=
  { World.holding Tryd.prog os ⟨#[], #[], []⟩ with heap := (((World.holding Tryd.prog os ⟨#[], #[], []⟩).heap.modify 2 (putTab #[.int .u8 0, .int .u8 1, .int .u8 28, .int .u8 2, .int .u8 29, .int .u8 14, .int .u8 24, .int .u8 3, .int .u8 30, .int .u8 22, .int .u8 20, .int .u8 15, .int .u8 25, .int .u8 17, .int .u8 4, .int .u8 8, .int .u8 31, .int .u8 27, .int .u8 13, .int .u8 23, .int .u8 21, .int .u8 19, .int .u8 16, .int .u8 7, .int .u8 26, .int .u8 12, .int .u8 18, .int .u8 6, .int .u8 11, .int .u8 5, .int .u8 10, .int .u8 9])).modify 3 (putTab #[.int .u8 0, .int .u8 1, .int .u8 56, .int .u8 2, .int .u8 57, .int .u8 49, .int .u8 28, .int .u8 3, .int .u8 61, .int .u8 58, .int .u8 42, .int .u8 50, .int .u8 38, .int .u8 29, .int .u8 17, .int .u8 4, .int .u8 62, .int .u8 47, .int .u8 59, .int .u8 36, .int .u8 45, .int .u8 43, .int .u8 51, .int .u8 22, .int .u8 53, .int .u8 39, .int .u8 33, .int .u8 30, .int .u8 24, .int .u8 18, .int .u8 12, .int .u8 5, .int .u8 63, .int .u8 55, .int .u8 48, .int .u8 27, .int .u8 60, .int .u8 41, .int .u8 37, .int .u8 16, .int .u8 46, .int .u8 35, .int .u8 44, .int .u8 21, .int .u8 52, .int .u8 32, .int .u8 23, .int .u8 11, .int .u8 54, .int .u8 26, .int .u8 40, .int .u8 15, .int .u8 34, .int .u8 20, .int .u8 31, .int .u8 10, .int .u8 25, .int .u8 14, .int .u8 19, .int .u8 9, .int .u8 13, .int .u8 8, .int .u8 7, .int .u8 6])).modify 0 (putTab #[.int .u64 1, .int .u64 10, .int .u64 100, .int .u64 1000, .int .u64 10000, .int .u64 100000, .int .u64 1000000, .int .u64 10000000, .int .u64 100000000, .int .u64 1000000000, .int .u64 10000000000, .int .u64 100000000000, .int .u64 1000000000000, .int .u64 10000000000000, .int .u64 100000000000000, .int .u64 1000000000000000, .int .u64 10000000000000000, .int .u64 100000000000000000, .int .u64 1000000000000000000, .int .u64 10000000000000000000]) }
set_option maxRecDepth 100000 in
theorem laid_met (os : Os) : laidMet Tryd.prog Rows.fnExactPolyTextRow.laid ((laidWorld os).forCall (fun _ _ => 0) ⟨#[], #[.agg #[.int .i64 0, .slice none 0 0]], []⟩).memory :=
  laidMet_of_run' 8 (by kernel_rfl) (by kernel_rfl)
theorem reads (os : Os) {H : Type} (enc : TypeId × Value → H) : ∃ places, DataW.whole enc Tryd.prog ((laidWorld os).forCall (fun _ _ => 0) ⟨#[], #[.agg #[.int .i64 0, .slice none 0 0]], []⟩).memory Tryd.f3.params.toList Rows.fnExactPolyTextSpec.vars false #[.agg #[.int .i64 0, .slice none 0 0]].toList 8 = some ([.agg [.lit (.int .i64 0), .nil]], [], places) :=
  ⟨[], by kernel_rfl⟩

set_option maxRecDepth 100000 in
theorem lifted (os : Os) (started : os.Started) (H : Type) (enc : TypeId × Value → H) (F : Stop.Interp) :
    ReturnsInHanded {} Tryd.checked os 3 .any ((OpenSpec.ofChange Rows.fnExactPolyTextSpec).preRow enc Tryd.prog Tryd.f3 Rows.fnExactPolyTextRow.domain false Rows.fnExactPolyTextRow.laid) (((OpenSpec.ofChange Rows.fnExactPolyTextSpec).at F).post enc Tryd.prog Tryd.f3 false true false false) := by
  obtain ⟨places, hx⟩ := reads os enc
  refine returnsInHanded_of_row (C := Tryd.checked) (s := OpenSpec.ofChange Rows.fnExactPolyTextSpec) own started (by kernel_rfl) Tryd.func3
    (witness_row_at (enc := enc) (C := Tryd.checked) false (laidWorld os) #[.agg #[.int .i64 0, .slice none 0 0]] rfl (by kernel_rfl) (by kernel_rfl) (by kernel_rfl)
      (OpenSpec.preRow_of_cond 8 hx (by kernel_rfl) (fun k hk => by cases hk) (by kernel_rfl) (laid_met os))) ?_
  intro W base args ds gs before hval hW _ _ _ hL _ _
  exact contract H enc W base args ds gs before hval hW hL

theorem said : Rows.FnExactPolyTextSaid :=
  OpenClaim.holds_of_cond 3 Tryd.f3 rfl rfl rfl rfl rfl rfl rfl ⟨rfl, rfl, rfl, rfl, rfl⟩ rfl rfl rfl rfl rfl (by kernel_rfl) Tryd.func3 (by kernel_rfl)
    (of_decide_eq_true (by kernel_rfl)) (by unfold Func.isWrapper; first | (rw [if_pos (by decide +kernel)]; kernel_rfl) | (rw [if_neg (by decide +kernel)]; exact ⟨rfl, rfl⟩))
    (fun os started H enc _ F => by rw [OpenClaim.pre_eq_preRow]; exact lifted os started H enc F)

/-- no parameter wants a stand-in -/
theorem plain (f : FuncId) (fn : Func) (hf : Tryd.pinned.checked.prog.funcNamed "loop.example/g01091/laws.FnExactPolyText" = some f) (hfn : Tryd.pinned.checked.prog.funcs[f]? = some fn) :
    false = Tryd.pinned.checked.prog.looks [] ∧ ∀ (j : Nat) t, fn.params[j]? = some t → Tryd.pinned.checked.prog.wantsStandIn t = false := by
  obtain rfl : f = 3 := Option.some.inj ((show Tryd.prog.funcNamed "loop.example/g01091/laws.FnExactPolyText" = some 3 by kernel_rfl).symm.trans hf) |>.symm
  obtain rfl : fn = Tryd.f3 := (Option.some.inj (Tryd.func3.symm.trans hfn)).symm
  refine ⟨by kernel_rfl, fun j t ht => ?_⟩
  rw [Tryd.params3] at ht
  obtain rfl : t = 24 := by simpa using Array.mem_of_getElem? ht
  exact (show Tryd.prog.wantsStandIn 24 = false by kernel_rfl)

theorem proved : Rows.FnExactPolyTextCardSaid :=
  Claim7.holds_tied_plain_at .later [] _ _ _ _ said (fun _ h => by cases h) (by kernel_rfl) (fun _ h => by cases h) fnExactPolyText_row_tie rfl ⟨rfl, rfl⟩ (by kernel_rfl) rfl plain (by kernel_rfl)
#print axioms proved
end Go.Proofs.YtnomnaojondffaaDoor.fnExactPolyText
