/- Texts of this claim, joined: words and laws that the others use. -/
import Derived.Test.YtinhlaiogkmkfaaQVc
import Derived.Test.YtinhlaiogkmkfaaQGg
import Derived.Shelf.Small.Bits
import Derived.Shelf.Strconv.Itoa0
import Derived.Shelf.Sort.Plain
import Derived.Shelf.Slices.CompactS
import Derived.Shelf.Slices.Cells
import Derived.Shelf.Slices.In.SortNone
import Derived.Test.YtinhlaiogkmkfaaProg
import Derived.Test.YtinhlaiogkmkfaaQPAx9
import Derived.Test.YtinhlaiogkmkfaaQPAx7
import Derived.Test.YtinhlaiogkmkfaaQLa
import Derived.Test.YtinhlaiogkmkfaaQLb
import Derived.Deep.RegionHeld3
section
/- expr.Names: the walk. -/
namespace Go.Proofs.Ytinhlaiogkmkfaa.G
open Go.RowKit
attribute [local simp, local go_sem] alloc_drewN setCell_drewN
set_option linter.unusedVariables false
set_option linter.unusedSimpArgs false
set_option maxRecDepth 100000
end Go.Proofs.Ytinhlaiogkmkfaa.G
end
section
-- Printed by a program of this session over the kit's print, with contracts of this session's own. Not trusted: Lean checks it.
namespace Go.Proofs.Ytinhlaiogkmkfaa.PA
open Go.RowKit Go.Proofs.YtinhlaiogkmkfaaW.PrintWords Go.Proofs.YtinhlaiogkmkfaaW.PrintLast Go.Proofs.YtinhlaiogkmkfaaW.PrintMore
attribute [local go_sem] max2_int min2_int max_two min_two max_three min_three max_four min_four   -- for this text's walks alone
set_option linter.unusedVariables false
set_option linter.unusedSimpArgs false

/-! ### expr_Names: function 30 (a contract of this session) -/
/-! ### shuttleref10_Index: function 49 -/
def shuttleref10_Index.l0 : Nat → List (S56) → ByteArray → Int → Option (Int)
  | 0, _, _, _ => none
  | k + 1, x0, x1, x5 => if x5 < (x0.length : Int) then (if 0 ≤ x5 then (if ((rd_T56 x0 x5).f0).toList = x1.toList then (some x5) else (shuttleref10_Index.l0 k x0 x1 (wrap64 (x5 + 1)))) else (none)) else (some (-1))
def shuttleref10_Index.f (k : Nat) (l0 : List (S56)) (a1 : ByteArray) : Option (Int) := shuttleref10_Index.l0 k l0 a1 0
set_option maxHeartbeats 8000000 in
set_option maxRecDepth 100000 in
theorem shuttleref10_Index.calls (k : Nat) (A0 : Option Addr) (c0 : Nat) (l0 : List (S56)) (a1 : ByteArray) (r : Int) (w : World) (hr0 : Kd.C k56 w A0 l0.length l0) (hc0 : l0.length ≤ c0) (h : shuttleref10_Index.f k l0 a1 = some r) :
    Calls Try.prog 49 #[.slice A0 l0.length c0, .string a1] w fun e w' => e = .returned (.int .i64 r) ∧ Drawn0 w w' := by
  have HR0 := Aside0.mk hr0
  have HC0 := Aside0.mk hc0
  clear hr0 hc0
  have H : (shuttleref10_Index.l0 k l0 a1 0) = some r := h
  clear h
  have H' := Aside0.mk H
  clear H
  go_enter Try.func49, Try.ntmps49
  go_wp2
  go_loopg [5] k (fun kq v5 w' => ∃ (x5_1 : Int), v5 = .int .i64 x5_1 ∧ Aside0 (shuttleref10_Index.l0 kq l0 a1 x5_1 = some r) ∧ Aside0 (kq ≤ k) ∧ Drawn0 w w')
  case atStart => exact ⟨(0), (by first | rfl | (simp; done) | (simp [*]; done)), H', ⟨Nat.le_refl _⟩, by repeat (first | exact Drawn0.refl _ | apply Drawn0.step)⟩
  case round =>
    clear H'
    try clear p2
    obtain ⟨x5_1, rfl, HA, HK1, ⟨m1, rfl⟩⟩ := hrel
    cases gk with
    | zero => exact absurd HA.out (by simp [shuttleref10_Index.l0])
    | succ k1 =>
      have H := HA.out
      clear HA
      simp only [shuttleref10_Index.l0] at H
      by_cases c3 : x5_1 < (l0.length : Int)
      · rw [if_pos c3] at H
        have c3b0 : decide (x5_1 < (l0.length : Int)) = true := decide_eq_true c3
        clear c3
        by_cases c4 : 0 ≤ x5_1
        · rw [if_pos c4] at H
          have c4b0 : decide (0 ≤ x5_1) = true := decide_eq_true c4
          clear c4
          by_cases c5 : ((rd_T56 l0 x5_1).f0).toList = a1.toList
          · rw [if_pos c5] at H
            have c5b0 : (((rd_T56 l0 x5_1).f0).toList == a1.toList) = true := beq_iff_eq.mpr c5
            have c5b1 : (((rd_T56 l0 x5_1).f0).toList != a1.toList) = false := bne_eq_false_iff_eq.mpr c5
            clear c5
            obtain rfl := Option.some.inj H
            have p257 : 0 ≤ (x5_1 : Int) := of_decide_eq_true (by first | (with_reducible assumption) | assumption)
            have q257 : x5_1 < (l0.length : Int) := of_decide_eq_true (by first | (with_reducible assumption) | assumption)
            obtain ⟨ad257, e257, hx257_0, hx257_1⟩ := at_T56 HR0.out x5_1 p257 q257
            cases e257
            replace p257 := eq_true p257
            replace q257 := eq_true q257
            go_wp2
            go_ret
            exact ⟨by first | rfl | (simp; done) | (simp [*]; done), by repeat (first | exact Drawn0.refl _ | apply Drawn0.step)⟩
          · rw [if_neg c5] at H
            have c5b0 : (((rd_T56 l0 x5_1).f0).toList == a1.toList) = false := beq_eq_false_iff_ne.mpr c5
            have c5b1 : (((rd_T56 l0 x5_1).f0).toList != a1.toList) = true := bne_iff_ne.mpr c5
            have H' := Aside0.mk H
            clear H
            have p257 : 0 ≤ (x5_1 : Int) := of_decide_eq_true (by first | (with_reducible assumption) | assumption)
            have q257 : x5_1 < (l0.length : Int) := of_decide_eq_true (by first | (with_reducible assumption) | assumption)
            obtain ⟨ad257, e257, hx257_0, hx257_1⟩ := at_T56 HR0.out x5_1 p257 q257
            cases e257
            replace p257 := eq_true p257
            replace q257 := eq_true q257
            go_wp2
            go_roundg k1
            case measure => have := HK1.out; omega
            case rel => exact ⟨(wrap64 (x5_1 + 1)), (by first | rfl | (simp; done) | (simp [*]; done)), H', ⟨by have := HK1.out; omega⟩, by repeat (first | exact Drawn0.refl _ | apply Drawn0.step)⟩
        · rw [if_neg c4] at H
          exact absurd H (by simp)
      · rw [if_neg c3] at H
        have c3b0 : decide (x5_1 < (l0.length : Int)) = false := decide_eq_false c3
        clear c3
        obtain rfl := Option.some.inj H
        go_wp2
        go_ret
        exact ⟨by first | rfl | (simp; done) | (simp [*]; done), by repeat (first | exact Drawn0.refl _ | apply Drawn0.step)⟩

/-! ### shuttleref10_Get: function 31 -/
def shuttleref10_Get.f (k : Nat) (l0 : List (S56)) (a1 : ByteArray) : Option (ByteArray × Bool) := (shuttleref10_Index.f k l0 a1).bind fun t258 => (if t258 ≥ 0 then (if 0 ≤ t258 then (if t258 < (l0.length : Int) then (some ((rd_T56 l0 t258).f1, true)) else (none)) else (none)) else (some ((⟨#[]⟩ : ByteArray), false)))
set_option maxHeartbeats 8000000 in
set_option maxRecDepth 100000 in
theorem shuttleref10_Get.calls (k : Nat) (A0 : Option Addr) (c0 : Nat) (l0 : List (S56)) (a1 : ByteArray) (r1 : ByteArray) (r2 : Bool) (w : World) (hr0 : Kd.C k56 w A0 l0.length l0) (hc0 : l0.length ≤ c0) (h : shuttleref10_Get.f k l0 a1 = some (r1, r2)) :
    Calls Try.prog 31 #[.slice A0 l0.length c0, .string a1] w fun e w' => e = .returned (.tuple #[.string r1, .bool r2]) ∧ Drawn0 w w' := by
  have HR0 := Aside0.mk hr0
  have HC0 := Aside0.mk hc0
  clear hr0 hc0
  have H : ((shuttleref10_Index.f k l0 a1).bind fun t258 => (if t258 ≥ 0 then (if 0 ≤ t258 then (if t258 < (l0.length : Int) then (some ((rd_T56 l0 t258).f1, true)) else (none)) else (none)) else (some ((⟨#[]⟩ : ByteArray), false)))) = some (r1, r2) := h
  clear h
  replace H := Option.bind_eq_some_iff.mp H
  obtain ⟨t258, A30, H⟩ := H
  replace H : (if t258 ≥ 0 then (if 0 ≤ t258 then (if t258 < (l0.length : Int) then (some ((rd_T56 l0 t258).f1, true)) else (none)) else (none)) else (some ((⟨#[]⟩ : ByteArray), false))) = some (r1, r2) := H
  have A3 := Aside0.mk A30
  clear A30
  by_cases c4 : t258 ≥ 0
  · rw [if_pos c4] at H
    have c4b0 : decide (0 ≤ t258) = true := decide_eq_true c4
    clear c4
    by_cases c5 : 0 ≤ t258
    · rw [if_pos c5] at H
      have c5b0 : decide (0 ≤ t258) = true := decide_eq_true c5
      clear c5
      by_cases c6 : t258 < (l0.length : Int)
      · rw [if_pos c6] at H
        have c6b0 : decide (t258 < (l0.length : Int)) = true := decide_eq_true c6
        clear c6
        simp only [Option.some.injEq, Prod.mk.injEq] at H
        obtain ⟨rfl, rfl⟩ := H
        go_enter Try.func31, Try.ntmps31
        go_wp2_with (first | ((with_reducible refine gate_callee (f := 49) rfl ?_); refine goesL_ (some 9) rfl rfl Try.func49 (by kernel_rfl) rfl #[.slice A0 l0.length c0, .string a1] rfl (by (try simp only [List.map_toArray, List.map_cons, List.map_nil]); first | done | rfl | (simp only [List.length_drop, List.length_take]; rfl)) ?_; (with_reducible refine (shuttleref10_Index.calls k _ _ l0 a1 t258 _ ?side1 ?side2 A3.out).mono ?_); (case side1 => repeat (first | exact HR0.out | (with_reducible refine Kd.C_alloc ?_ _) | (with_reducible refine Kd.C_drewN ?_ _) | (with_reducible refine Kd.C_drew ?_))); (case side2 => exact HC0.out); rintro e w' ⟨rfl, ⟨nd, rfl⟩⟩; refine ⟨_, rfl, ?_⟩; have p259 : 0 ≤ (t258 : Int) := of_decide_eq_true (by first | (with_reducible assumption) | assumption); have q259 : t258 < (l0.length : Int) := of_decide_eq_true (by first | (with_reducible assumption) | assumption); obtain ⟨ad259, e259, hx259_0, hx259_1⟩ := at_T56 HR0.out t258 p259 q259; cases e259; replace p259 := eq_true p259; replace q259 := eq_true q259))
        go_ret2
        exact ⟨by first | rfl | (simp; done) | (simp [*]; done), by repeat (first | exact Drawn0.refl _ | apply Drawn0.step)⟩
      · rw [if_neg c6] at H
        exact absurd H (by simp)
    · rw [if_neg c5] at H
      exact absurd H (by simp)
  · rw [if_neg c4] at H
    have c4b0 : decide (0 ≤ t258) = false := decide_eq_false c4
    clear c4
    simp only [Option.some.injEq, Prod.mk.injEq] at H
    obtain ⟨rfl, rfl⟩ := H
    go_enter Try.func31, Try.ntmps31
    go_wp2_with (first | ((with_reducible refine gate_callee (f := 49) rfl ?_); refine goesL_ (some 9) rfl rfl Try.func49 (by kernel_rfl) rfl #[.slice A0 l0.length c0, .string a1] rfl (by (try simp only [List.map_toArray, List.map_cons, List.map_nil]); first | done | rfl | (simp only [List.length_drop, List.length_take]; rfl)) ?_; (with_reducible refine (shuttleref10_Index.calls k _ _ l0 a1 t258 _ ?side1 ?side2 A3.out).mono ?_); (case side1 => repeat (first | exact HR0.out | (with_reducible refine Kd.C_alloc ?_ _) | (with_reducible refine Kd.C_drewN ?_ _) | (with_reducible refine Kd.C_drew ?_))); (case side2 => exact HC0.out); rintro e w' ⟨rfl, ⟨nd, rfl⟩⟩; refine ⟨_, rfl, ?_⟩))
    go_ret2
    exact ⟨by first | rfl | (simp; done) | (simp [*]; done), by repeat (first | exact Drawn0.refl _ | apply Drawn0.step)⟩

end Go.Proofs.Ytinhlaiogkmkfaa.PA
end
section
/- With all its names known an expression folds to true or false. -/
namespace Go.Proofs.Ytinhlaiogkmkfaa.PA
open Go.RowKit Go.Proofs.YtinhlaiogkmkfaaW.PrintWords Go.Proofs.YtinhlaiogkmkfaaW.PrintLast Go.Proofs.YtinhlaiogkmkfaaW.PrintMore
set_option linter.unusedVariables false
/-- The reference's Get. -/
theorem refIndex_loop (l : List S56) (nm : ByteArray) (hl : l.length < 4398046511104) : ∀ (d k i : Nat), l.length - i = d → i ≤ l.length → d < k →
    ∃ r, shuttleref10_Index.l0 k l nm i = some r ∧ ((r = -1 ∧ G.getV (rule_say.vrs (l.drop i)) nm = none) ∨ ∃ (j : Nat) (hj : j < l.length), r = (j : Int) ∧ G.getV (rule_say.vrs (l.drop i)) nm = some l[j].f1) := by
  intro d
  induction d with
  | zero =>
    intro k i hd hi hk
    obtain ⟨k, rfl⟩ : ∃ m, k = m + 1 := ⟨k - 1, by omega⟩
    obtain rfl : i = l.length := by omega
    refine ⟨-1, ?_, .inl ⟨rfl, by rw [List.drop_length]; rfl⟩⟩
    unfold shuttleref10_Index.l0
    rw [if_neg (by omega)]
  | succ d ih =>
    intro k i hd hi hk
    obtain ⟨k, rfl⟩ : ∃ m, k = m + 1 := ⟨k - 1, by omega⟩
    have hi' : i < l.length := by omega
    have er : rd_T56 l (i : Int) = l[i] := by unfold rd_T56; simp [hi']
    have eg : G.getV (rule_say.vrs (l[i] :: l.drop (i + 1))) nm = if l[i].f0.toList == nm.toList then some l[i].f1 else G.getV (rule_say.vrs (l.drop (i + 1))) nm := rfl
    rw [List.drop_eq_getElem_cons hi', eg]
    unfold shuttleref10_Index.l0
    rw [if_pos (by omega), if_pos (by omega), er]
    by_cases c : l[i].f0.toList = nm.toList
    · rw [if_pos c, if_pos (beq_iff_eq.2 c)]
      exact ⟨_, rfl, .inr ⟨i, hi', rfl, rfl⟩⟩
    · rw [if_neg c, if_neg (by simpa using c), wrap_up hi' (by omega)]
      exact ih k (i + 1) (by omega) (by omega) (by omega)
theorem refGet_eq {l : List S56} (nm : ByteArray) (hl : l.length < 4398046511104) {k : Nat} (hk : l.length < k) : shuttleref10_Get.f k l nm = some (G.getT (rule_say.vrs l) nm, G.getB (rule_say.vrs l) nm) := by
  obtain ⟨r, h1, h2⟩ := refIndex_loop l nm hl l.length k 0 (by omega) (by omega) hk
  rw [List.drop_zero] at h2
  have h1' : shuttleref10_Index.l0 k l nm 0 = some r := h1
  unfold shuttleref10_Get.f shuttleref10_Index.f G.getT G.getB
  rw [h1', Option.bind_some]
  rcases h2 with ⟨rfl, h2⟩ | ⟨j, hj, rfl, h2⟩
  · rw [h2, if_neg (by decide)]
    rfl
  · have er : rd_T56 l (j : Int) = l[j] := by unfold rd_T56; simp [hj]
    rw [h2, if_pos (by omega), if_pos (by omega), if_pos (by omega), er]
    rfl
end Go.Proofs.Ytinhlaiogkmkfaa.PA
end
section
/- The reference's Check says what the program's says. -/
namespace Go.Proofs.Ytinhlaiogkmkfaa.PA
open Go.RowKit Go.Proofs.YtinhlaiogkmkfaaW.PrintWords Go.Proofs.YtinhlaiogkmkfaaW.PrintLast Go.Proofs.YtinhlaiogkmkfaaW.PrintMore
set_option linter.unusedVariables false
set_option linter.unusedSimpArgs false
def arR (k : Int) : Int := if 1 ≤ k ∧ k ≤ 5 then 0 else if k = 6 ∨ k = 11 then 1 else if k = 7 ∨ k = 8 ∨ k = 9 ∨ k = 10 ∨ k = 12 ∨ k = 13 then 2 else -1
theorem refArity_eq (x : Int) {k : Nat} (hk : 2 ≤ k) : shuttleref11_Arity.f k x = some (arR x) := by
  obtain ⟨k, rfl⟩ : ∃ m, k = m + 2 := ⟨k - 2, by omega⟩
  have j1 : ∀ b, shuttleref11_Arity.j1 (k + 1) x b = some (if b = true then 1 else if x = 7 ∨ x = 8 ∨ x = 9 ∨ x = 10 ∨ x = 12 ∨ x = 13 then 2 else -1) := by
    intro b
    unfold shuttleref11_Arity.j1
    dsimp only
    cases b
    · rw [if_neg (show ¬ (false = true) by decide), if_neg (show ¬ (false = true) by decide)]
      by_cases c7 : x = 7
      · rw [if_pos c7, if_pos (by omega)]
      rw [if_neg c7]
      by_cases c8 : x = 8
      · rw [if_pos c8, if_pos (by omega)]
      rw [if_neg c8]
      by_cases c9 : x = 9
      · rw [if_pos c9, if_pos (by omega)]
      rw [if_neg c9]
      by_cases c10 : x = 10
      · rw [if_pos c10, if_pos (by omega)]
      rw [if_neg c10]
      by_cases c12 : x = 12
      · rw [if_pos c12, if_pos (by omega)]
      rw [if_neg c12]
      by_cases c13 : x = 13
      · rw [if_pos c13, if_pos (by omega)]
      rw [if_neg c13, if_neg (by omega)]
    · rw [if_pos rfl, if_pos rfl]
  have j0 : ∀ b, shuttleref11_Arity.j0 (k + 2) x b = some (if b = true then 0 else if x = 6 ∨ x = 11 then 1 else if x = 7 ∨ x = 8 ∨ x = 9 ∨ x = 10 ∨ x = 12 ∨ x = 13 then 2 else -1) := by
    intro b
    unfold shuttleref11_Arity.j0
    dsimp only
    cases b
    · rw [if_neg (show ¬ (false = true) by decide), if_neg (show ¬ (false = true) by decide), j1, j1]
      by_cases c6 : x = 6
      · rw [if_pos c6, if_pos (Or.inl c6), if_pos (beq_iff_eq.2 c6)]
      · rw [if_neg c6]
        by_cases c11 : x = 11
        · rw [if_pos (beq_iff_eq.2 c11), if_pos (Or.inr c11)]
        · rw [if_neg (by simpa using c11), if_neg (show ¬ (x = 6 ∨ x = 11) by omega)]
    · rw [if_pos rfl, if_pos rfl]
  unfold shuttleref11_Arity.f arR
  rw [j0, j0, j0, j0, j0]
  by_cases c1 : x = 1
  · rw [if_pos c1, if_pos (beq_iff_eq.2 c1), if_pos (by omega)]
  rw [if_neg c1]
  by_cases c2 : x = 2
  · rw [if_pos c2, if_pos (beq_iff_eq.2 c2), if_pos (by omega)]
  rw [if_neg c2]
  by_cases c3 : x = 3
  · rw [if_pos c3, if_pos (beq_iff_eq.2 c3), if_pos (by omega)]
  rw [if_neg c3]
  by_cases c4 : x = 4
  · rw [if_pos c4, if_pos (beq_iff_eq.2 c4), if_pos (by omega)]
  rw [if_neg c4]
  by_cases c5 : x = 5
  · rw [if_pos (beq_iff_eq.2 c5), if_pos (show 1 ≤ x ∧ x ≤ 5 by omega)]
  · rw [if_neg (by simpa using c5), if_neg (show ¬ (1 ≤ x ∧ x ≤ 5) by omega)]
theorem wordByte_eq (c : Int) : shuttleref2_wordByte.f c = some (G.letterB c) := by
  unfold shuttleref2_wordByte.f G.letterB
  by_cases a1 : c ≥ 65 <;> by_cases a2 : c ≤ 90 <;> by_cases a3 : c ≥ 97 <;> by_cases a4 : c ≤ 122 <;> by_cases a5 : c ≥ 48 <;> by_cases a6 : c ≤ 57 <;> simp [a1, a2, a3, a4, a5, a6] <;> omega
theorem bt_same (s : ByteArray) (i : Nat) : bt s (i : Int) = G.bt s i := rfl
theorem varName_loop (s : ByteArray) (hs : s.size ≤ 64) : ∀ (d k i : Nat), s.size - i = d → i ≤ s.size → d < k → shuttleref2_VarName.l0 k s i = some ((List.range' i (s.size - i)).all fun j => G.letterB (G.bt s j)) := by
  intro d
  induction d with
  | zero =>
    intro k i hd hi hk
    obtain ⟨k, rfl⟩ : ∃ m, k = m + 1 := ⟨k - 1, by omega⟩
    obtain rfl : i = s.size := by omega
    unfold shuttleref2_VarName.l0
    rw [if_neg (by omega), Nat.sub_self]
    rfl
  | succ d ih =>
    intro k i hd hi hk
    obtain ⟨k, rfl⟩ : ∃ m, k = m + 1 := ⟨k - 1, by omega⟩
    have hi' : i < s.size := by omega
    unfold shuttleref2_VarName.l0
    rw [if_pos (by omega), if_pos (by omega), wordByte_eq, Option.bind_some, bt_same, wrap_up hi' (by omega), hd, List.range'_succ, List.all_cons]
    have e : s.size - (i + 1) = d := by omega
    have := ih k (i + 1) e (by omega) (by omega)
    rw [e] at this
    cases hb : G.letterB (G.bt s i)
    · rw [if_neg (by decide)]
      rfl
    · rw [if_pos rfl, this, Bool.true_and]
theorem refVarName_eq (s : ByteArray) {k : Nat} (hk : 70 ≤ k) : shuttleref2_VarName.f k s = some (G.varNameB s) := by
  obtain ⟨k, rfl⟩ : ∃ m, k = m + 1 := ⟨k - 1, by omega⟩
  unfold shuttleref2_VarName.f shuttleref2_VarName.j0 G.varNameB G.madeOk
  dsimp only
  by_cases c1 : (s.size : Int) < 1
  · rw [if_pos c1, if_pos rfl, decide_eq_false (by omega)]
    rfl
  rw [if_neg c1]
  by_cases c2 : (s.size : Int) > 64
  · rw [if_pos c2, if_pos rfl, decide_eq_true (show 1 ≤ s.size by omega), decide_eq_false (show ¬ s.size ≤ 64 by omega)]
    rfl
  have hl : shuttleref2_VarName.l0 k s 0 = some (G.letters s s.size) := by
    have := varName_loop s (by omega) s.size k 0 (by omega) (Nat.zero_le _) (by omega)
    rw [Nat.sub_zero, ← List.range_eq_range'] at this
    exact this
  have e0 : bt s 0 = G.bt s 0 := rfl
  rw [if_neg c2, if_pos (by omega), hl, decide_eq_true (show 1 ≤ s.size by omega), decide_eq_true (show s.size ≤ 64 by omega), e0, Bool.true_and, Bool.true_and]
  by_cases c3 : G.bt s 0 ≥ 48
  · rw [if_pos c3, decide_eq_false (show ¬ G.bt s 0 < 48 by omega), Bool.false_or]
    by_cases c4 : G.bt s 0 ≤ 57
    · rw [decide_eq_true c4, if_pos rfl, decide_eq_false (by omega), Bool.and_false]
    · rw [decide_eq_false c4, if_neg (by decide), decide_eq_true (by omega), Bool.and_true]
  · rw [if_neg c3, if_neg (by decide), decide_eq_true (show G.bt s 0 < 48 by omega), Bool.true_or, Bool.and_true]
theorem refVariable_eq (s : ByteArray) {k : Nat} (hk : 70 ≤ k) : shuttleref11_Variable.f k s = some (G.variableB s) := by
  unfold shuttleref11_Variable.f G.variableB G.reserved
  rw [refVarName_eq s hk, Option.bind_some]
  cases G.varNameB s
  · rw [if_neg (by decide), Bool.and_false]
  · rw [if_pos rfl, Bool.and_true]
    by_cases c1 : s.toList = [111, 114]
    · rw [if_pos c1, c1]; rfl
    rw [if_neg c1]
    by_cases c2 : s.toList = [97, 110, 100]
    · rw [if_pos c2, c2]; rfl
    rw [if_neg c2]
    by_cases c3 : s.toList = [110, 111, 116]
    · rw [if_pos c3, c3]; rfl
    rw [if_neg c3]
    by_cases c4 : s.toList = [116, 114, 117, 101]
    · rw [if_pos c4, c4]; rfl
    rw [if_neg c4]
    by_cases c5 : s.toList = [102, 97, 108, 115, 101]
    · rw [if_pos c5, c5]; rfl
    rw [if_neg c5, beq_eq_false_iff_ne.2 c1, beq_eq_false_iff_ne.2 c2, beq_eq_false_iff_ne.2 c3, beq_eq_false_iff_ne.2 c4, beq_eq_false_iff_ne.2 c5]
    rfl
def ownR (x : S45) : Bool := if x.f0 = 1 then decide (x.f1.size ≤ 1024) else if x.f0 = 2 ∨ x.f0 = 3 then G.variableB x.f1 else x.f1.toList.isEmpty
theorem refOwn_eq (x : S45) {k : Nat} (hk : 70 ≤ k) : shuttleref11_own.f k x.f0 x.f1 = some (ownR x) := by
  unfold shuttleref11_own.f ownR
  rw [refVariable_eq _ hk]
  by_cases c1 : x.f0 = 1
  · rw [if_pos c1, if_pos c1]
    congr 1
    rw [Bool.eq_iff_iff, decide_eq_true_eq, decide_eq_true_eq]
    omega
  rw [if_neg c1, if_neg c1]
  by_cases c2 : x.f0 = 2
  · rw [if_pos c2, if_pos (Or.inl c2)]; rfl
  rw [if_neg c2]
  by_cases c3 : x.f0 = 3
  · rw [if_pos c3, if_pos (Or.inr c3)]; rfl
  rw [if_neg c3, if_neg (by omega)]
  cases x.f1.toList <;> rfl
def trR (y : S45) : Bool := y.f0 != 1 && y.f0 != 2
def truthsR (k : Int) : Bool := k == 11 || k == 12 || k == 13
def globR (x : S45) (ps : List S45) : Bool := if x.f0 = 9 ∨ x.f0 = 10 then ((rd_T45 ps 1).f0 == 1) && (G.checkRes (rd_T45 ps 1).f1).2 == 0 else true
def fitsR (x : S45) (ps : List S45) : Bool := ps.all (fun y => trR y == truthsR x.f0) && globR x ps
theorem refFits_loop (x : S45) (ps : List S45) (b : Bool) (hl : ps.length ≤ 2) (h9 : x.f0 = 9 ∨ x.f0 = 10 → ps.length = 2) (hs : ∀ y ∈ ps, y.f1.size ≤ 140737488351232) : ∀ (d k i : Nat), ps.length - i = d → i ≤ ps.length → d < k →
    shuttleref11_fits.l0 k ps b i x.f0 x.f1 = some ((ps.drop i).all (fun y => trR y == b) && globR x ps) := by
  intro d
  induction d with
  | zero =>
    intro k i hd hi hk
    obtain ⟨k, rfl⟩ : ∃ m, k = m + 1 := ⟨k - 1, by omega⟩
    obtain rfl : i = ps.length := by omega
    unfold shuttleref11_fits.l0
    rw [if_neg (by omega), List.drop_length]
    have gl : (1 : Int) < ps.length → shuttleref6_Check.f ((rd_T45 ps 1).f1) = some (G.checkRes (rd_T45 ps 1).f1) := by
      intro h
      have e : rd_T45 ps 1 = ps[1]'(by omega) := by unfold rd_T45; simp [show 1 < ps.length by omega]
      unfold shuttleref6_Check.f
      rw [if_pos]
      rw [e]
      have := hs _ (List.getElem_mem (show 1 < ps.length by omega))
      omega
    unfold globR
    by_cases c9 : x.f0 = 9
    · have hh : (1 : Int) < ps.length := by have := h9 (.inl c9); omega
      rw [if_pos c9, if_pos hh, gl hh, Option.bind_some, if_pos (Or.inl c9)]
      by_cases c1 : (rd_T45 ps 1).f0 = 1
      · rw [if_pos c1, c1]; rfl
      · rw [if_neg c1, beq_eq_false_iff_ne.2 c1]; rfl
    rw [if_neg c9]
    by_cases c10 : x.f0 = 10
    · have hh : (1 : Int) < ps.length := by have := h9 (.inr c10); omega
      rw [if_pos c10, if_pos hh, gl hh, Option.bind_some, if_pos (Or.inr c10)]
      by_cases c1 : (rd_T45 ps 1).f0 = 1
      · rw [if_pos c1, c1]; rfl
      · rw [if_neg c1, beq_eq_false_iff_ne.2 c1]; rfl
    rw [if_neg c10, if_neg (by omega)]
    rfl
  | succ d ih =>
    intro k i hd hi hk
    obtain ⟨k, rfl⟩ : ∃ m, k = m + 1 := ⟨k - 1, by omega⟩
    have hi' : i < ps.length := by omega
    unfold shuttleref11_fits.l0
    rw [if_pos (by omega), if_pos (by omega), rd45 hi', wrap_up hi' (by omega), ih k (i + 1) (by omega) (by omega) (by omega), List.drop_eq_getElem_cons hi', List.all_cons]
    have e : trR ps[i] = (if ps[i].f0 = 1 then false else ps[i].f0 != 2) := by
      unfold trR
      by_cases c : ps[i].f0 = 1
      · rw [if_pos c, c]; rfl
      · rw [if_neg c, bne_iff_ne.2 c]; rfl
    by_cases c1 : ps[i].f0 = 1
    · rw [if_pos c1] at e ⊢
      rw [e]
      cases b <;> rfl
    · rw [if_neg c1] at e ⊢
      rw [e]
      cases b <;> cases (ps[i].f0 != 2) <;> rfl
theorem refFits_eq (x : S45) (ps : List S45) {k : Nat} (hk : 5 ≤ k) (hl : ps.length ≤ 2) (h9 : x.f0 = 9 ∨ x.f0 = 10 → ps.length = 2) (hs : ∀ y ∈ ps, y.f1.size ≤ 140737488351232) : shuttleref11_fits.f k x.f0 x.f1 ps = some (fitsR x ps) := by
  obtain ⟨k, rfl⟩ : ∃ m, k = m + 1 := ⟨k - 1, by omega⟩
  have j : ∀ b, shuttleref11_fits.j0 (k + 1) ps b x.f0 x.f1 = some (ps.all (fun y => trR y == b) && globR x ps) := fun b => by
    unfold shuttleref11_fits.j0
    dsimp only
    exact refFits_loop x ps b hl h9 hs ps.length k 0 (by omega) (Nat.zero_le _) (by omega)
  unfold shuttleref11_fits.f fitsR truthsR
  rw [j, j]
  by_cases c11 : x.f0 = 11
  · rw [if_pos c11, c11]; rfl
  rw [if_neg c11]
  by_cases c12 : x.f0 = 12
  · rw [if_pos c12, c12]; rfl
  rw [if_neg c12, beq_eq_false_iff_ne.2 c11, beq_eq_false_iff_ne.2 c12]
  rfl
/-- A step on the reference's stack, as a mark on the program's. -/
def toP (y : S45) : G.Prt := if y.f0 = 1 then ⟨false, true, y.f1⟩ else if y.f0 = 2 then ⟨false, false, G.mt⟩ else G.tru
theorem toP_truth (y : S45) : (toP y).truth = trR y := by
  unfold toP trR
  by_cases c1 : y.f0 = 1
  · rw [if_pos c1, c1]; rfl
  rw [if_neg c1, bne_iff_ne.2 c1]
  by_cases c2 : y.f0 = 2
  · rw [if_pos c2, c2]; rfl
  · rw [if_neg c2, bne_iff_ne.2 c2]; rfl
def okR (x : S45) (st : List S45) : Bool := decide (0 ≤ arR x.f0) && decide (arR x.f0 ≤ st.length) && ownR x && fitsR x (st.drop (st.length - (arR x.f0).toNat))
theorem arR_cases (k : Int) : (arR k = 0 ∧ 1 ≤ k ∧ k ≤ 5) ∨ (arR k = 1 ∧ (k = 6 ∨ k = 11)) ∨ (arR k = 2 ∧ (k = 7 ∨ k = 8 ∨ k = 9 ∨ k = 10 ∨ k = 12 ∨ k = 13)) ∨ (arR k = -1 ∧ (k < 1 ∨ 13 < k)) := by
  unfold arR
  by_cases c1 : 1 ≤ k ∧ k ≤ 5
  · rw [if_pos c1]; exact .inl ⟨rfl, c1⟩
  rw [if_neg c1]
  by_cases c2 : k = 6 ∨ k = 11
  · rw [if_pos c2]; exact .inr (.inl ⟨rfl, c2⟩)
  rw [if_neg c2]
  by_cases c3 : k = 7 ∨ k = 8 ∨ k = 9 ∨ k = 10 ∨ k = 12 ∨ k = 13
  · rw [if_pos c3]; exact .inr (.inr (.inl ⟨rfl, c3⟩))
  · rw [if_neg c3]; exact .inr (.inr (.inr ⟨rfl, by omega⟩))
end Go.Proofs.Ytinhlaiogkmkfaa.PA
end
section
/- The reference's Check is the program's; what the program's stack is, step by step. -/
namespace Go.Proofs.Ytinhlaiogkmkfaa.PA
open Go.RowKit Go.Proofs.YtinhlaiogkmkfaaW.PrintWords Go.Proofs.YtinhlaiogkmkfaaW.PrintLast Go.Proofs.YtinhlaiogkmkfaaW.PrintMore
set_option linter.unusedVariables false
set_option linter.unusedSimpArgs false
theorem popC_ref (st : List S45) (k : Nat) (t : Bool) : G.popC (st.map toP) k t = if st.length < k then none else if (st.drop (st.length - k)).all (fun y => trR y == t) = true then some ((st.take (st.length - k)).map toP, (st.drop (st.length - k)).map toP) else none := by
  unfold G.popC
  rw [List.length_map]
  by_cases c : st.length < k
  · rw [if_pos c, if_pos c]
  · rw [if_neg c, if_neg c, ← List.map_drop, ← List.map_take, List.all_map]
    have e : ((fun q : G.Prt => q.truth == t) ∘ toP) = fun y => trR y == t := by
      funext y
      show ((toP y).truth == t) = _
      rw [toP_truth]
    rw [e]
theorem toP_lit (y : S45) : (toP y).lit = (y.f0 == 1) := by
  unfold toP
  by_cases c1 : y.f0 = 1
  · rw [if_pos c1, c1]; rfl
  rw [if_neg c1, beq_eq_false_iff_ne.2 c1]
  by_cases c2 : y.f0 = 2
  · rw [if_pos c2]
  · rw [if_neg c2]; rfl
theorem toP_text {y : S45} (h : y.f0 = 1) : (toP y).text = y.f1 := by
  unfold toP
  rw [if_pos h]
theorem toP_tru {y : S45} (h1 : y.f0 ≠ 1) (h2 : y.f0 ≠ 2) : toP y = G.tru := by
  unfold toP
  rw [if_neg h1, if_neg h2]
theorem stepC_ref (x : S45) (st : List S45) : G.stepC (st.map toP) x.f0 x.f1 = if okR x st = true then some ((st.take (st.length - (arR x.f0).toNat) ++ [x]).map toP) else none := by
  have snoc : ∀ s : List S45, (s ++ [x]).map toP = s.map toP ++ [toP x] := fun s => by simp
  rw [snoc]
  rcases arR_cases x.f0 with ⟨ar, hk⟩ | ⟨ar, hk⟩ | ⟨ar, hk⟩ | ⟨ar, hk⟩
  · have e : okR x st = ownR x := by
      unfold okR fitsR globR
      rw [ar, if_neg (by omega), show ((0 : Int).toNat) = 0 from rfl, Nat.sub_zero, List.drop_length, decide_eq_true (Int.le_refl 0), decide_eq_true (show (0 : Int) ≤ st.length by omega)]
      simp
    rw [e, ar, show ((0 : Int).toNat) = 0 from rfl, Nat.sub_zero, List.take_length]
    unfold G.stepC ownR
    simp only []
    by_cases c1 : x.f0 = 1
    · have et : toP x = ⟨false, true, x.f1⟩ := by unfold toP; rw [if_pos c1]
      rw [if_pos c1, if_pos c1, et]
      by_cases cs : x.f1.size ≤ 1024
      · rw [if_pos cs, decide_eq_true cs, if_pos rfl]
      · rw [if_neg cs, decide_eq_false cs, if_neg (by decide)]
    rw [if_neg c1, if_neg c1]
    by_cases c2 : x.f0 = 2
    · have et : toP x = ⟨false, false, G.mt⟩ := by unfold toP; rw [if_neg c1, if_pos c2]
      rw [if_pos c2, if_pos (Or.inl c2), et]
    rw [if_neg c2, toP_tru c1 c2]
    by_cases c3 : x.f0 = 3
    · rw [if_pos c3, if_pos (Or.inr c3)]
    · rw [if_neg c3, if_pos (show x.f0 = 4 ∨ x.f0 = 5 by omega), if_neg (show ¬ (x.f0 = 2 ∨ x.f0 = 3) by omega)]
  · have e1 : (arR x.f0).toNat = 1 := by rw [ar]; rfl
    have eo : okR x st = (decide (1 ≤ st.length) && x.f1.toList.isEmpty && (st.drop (st.length - 1)).all (fun y => trR y == truthsR x.f0)) := by
      unfold okR fitsR globR ownR
      rw [ar, if_neg (by omega), if_neg (by omega), if_neg (by omega), decide_eq_true (by decide), show ((1 : Int).toNat) = 1 from rfl, Bool.true_and, Bool.and_true]
      have : decide ((1 : Int) ≤ st.length) = decide (1 ≤ st.length) := by rw [Bool.eq_iff_iff, decide_eq_true_eq, decide_eq_true_eq]; omega
      rw [this]
    rw [eo, e1, toP_tru (by omega) (by omega)]
    have key : ∀ t : Bool, t = truthsR x.f0 → (match G.popC (st.map toP) 1 t with | some (s, l) => if (true && x.f1.toList.isEmpty) = true then some (s ++ [G.tru]) else none | none => none) = if (decide (1 ≤ st.length) && x.f1.toList.isEmpty && (st.drop (st.length - 1)).all (fun y => trR y == truthsR x.f0)) = true then some ((st.take (st.length - 1)).map toP ++ [G.tru]) else none := by
      intro t ht
      rw [popC_ref, ← ht]
      by_cases c : st.length < 1
      · rw [if_pos c, decide_eq_false (by omega)]; rfl
      · rw [if_neg c, decide_eq_true (show 1 ≤ st.length by omega), Bool.true_and]
        cases ha : (st.drop (st.length - 1)).all (fun y => trR y == t)
        · rw [if_neg (by decide), Bool.and_false]; rfl
        · rw [if_pos rfl, Bool.and_true]
    unfold G.stepC
    simp only []
    rcases hk with c | c
    · rw [if_neg (by omega), if_neg (by omega), if_neg (by omega), if_neg (by omega), if_pos c]
      exact key false (by rw [c]; rfl)
    · rw [if_neg (by omega), if_neg (by omega), if_neg (by omega), if_neg (by omega), if_neg (by omega), if_neg (by omega), if_neg (by omega), if_pos c]
      exact key true (by rw [c]; rfl)
  · have e1 : (arR x.f0).toNat = 2 := by rw [ar]; rfl
    have eo : okR x st = (decide (2 ≤ st.length) && x.f1.toList.isEmpty && ((st.drop (st.length - 2)).all (fun y => trR y == truthsR x.f0) && globR x (st.drop (st.length - 2)))) := by
      unfold okR fitsR ownR
      rw [ar, if_neg (by omega), if_neg (by omega), decide_eq_true (by decide), show ((2 : Int).toNat) = 2 from rfl, Bool.true_and]
      have : decide ((2 : Int) ≤ st.length) = decide (2 ≤ st.length) := by rw [Bool.eq_iff_iff, decide_eq_true_eq, decide_eq_true_eq]; omega
      rw [this]
    rw [eo, e1, toP_tru (by omega) (by omega)]
    have key : ∀ (t : Bool) (ok : List G.Prt → Bool), t = truthsR x.f0 → (2 ≤ st.length → ok ((st.drop (st.length - 2)).map toP) = globR x (st.drop (st.length - 2))) → (match G.popC (st.map toP) 2 t with | some (s, l) => if (ok l && x.f1.toList.isEmpty) = true then some (s ++ [G.tru]) else none | none => none) = if (decide (2 ≤ st.length) && x.f1.toList.isEmpty && ((st.drop (st.length - 2)).all (fun y => trR y == truthsR x.f0) && globR x (st.drop (st.length - 2)))) = true then some ((st.take (st.length - 2)).map toP ++ [G.tru]) else none := by
      intro t ok ht hok
      rw [popC_ref, ← ht]
      by_cases c : st.length < 2
      · rw [if_pos c, decide_eq_false (by omega)]; rfl
      · rw [if_neg c, decide_eq_true (show 2 ≤ st.length by omega), Bool.true_and]
        cases ha : (st.drop (st.length - 2)).all (fun y => trR y == t)
        · rw [if_neg (by decide), Bool.false_and, Bool.and_false]; rfl
        · rw [if_pos rfl, Bool.true_and]
          dsimp only
          rw [hok (by omega), Bool.and_comm]
    have plain : ¬ (x.f0 = 9 ∨ x.f0 = 10) → globR x (st.drop (st.length - 2)) = true := fun h => by unfold globR; rw [if_neg h]
    have glob : (x.f0 = 9 ∨ x.f0 = 10) → 2 ≤ st.length → (match ((st.drop (st.length - 2)).map toP)[1]? with | some q => q.lit && (G.checkRes q.text).2 == 0 | none => false) = globR x (st.drop (st.length - 2)) := by
      intro h9 hl
      obtain ⟨a, b, hab⟩ : ∃ a b, st.drop (st.length - 2) = [a, b] := by
        have hlen : (st.drop (st.length - 2)).length = 2 := by rw [List.length_drop]; omega
        match hd : st.drop (st.length - 2), hlen with
        | [a, b], _ => exact ⟨a, b, rfl⟩
      rw [hab]
      unfold globR
      rw [if_pos h9]
      show ((toP b).lit && (G.checkRes (toP b).text).2 == 0) = ((b.f0 == 1) && (G.checkRes b.f1).2 == 0)
      rw [toP_lit]
      by_cases cb : b.f0 = 1
      · rw [toP_text cb]
      · rw [beq_eq_false_iff_ne.2 cb, Bool.false_and, Bool.false_and]
    unfold G.stepC
    simp only []
    rw [if_neg (by omega), if_neg (by omega), if_neg (by omega), if_neg (by omega), if_neg (by omega)]
    by_cases c7 : x.f0 = 7 ∨ x.f0 = 8
    · rw [if_pos c7]
      exact key false (fun _ => true) (by rcases c7 with c | c <;> rw [c] <;> rfl) (fun _ => (plain (by omega)).symm)
    rw [if_neg c7]
    by_cases c9 : x.f0 = 9 ∨ x.f0 = 10
    · rw [if_pos c9]
      exact key false _ (by rcases c9 with c | c <;> rw [c] <;> rfl) (glob c9)
    rw [if_neg c9, if_neg (by omega), if_pos (by omega)]
    exact key true (fun _ => true) (by have c : x.f0 = 12 ∨ x.f0 = 13 := by omega
                                       rcases c with c | c <;> rw [c] <;> rfl) (fun _ => (plain (by omega)).symm)
  · have eo : okR x st = false := by unfold okR; rw [ar, decide_eq_false (by decide)]; rfl
    rw [eo, if_neg (by decide)]
    unfold G.stepC
    simp only []
    rw [if_neg (by omega), if_neg (by omega), if_neg (by omega), if_neg (by omega), if_neg (by omega), if_neg (by omega), if_neg (by omega), if_neg (by omega), if_neg (by omega)]
theorem prs_drop (l : List S45) (i : Nat) (h : i < l.length) : expr_Check.prs (l.drop i) = (l[i].f0, l[i].f1) :: expr_Check.prs (l.drop (i + 1)) := by
  rw [List.drop_eq_getElem_cons h]
  rfl
theorem wrap_sub {n : Nat} {a : Int} (h0 : 0 ≤ a) (h : a ≤ n) (hn : n ≤ 140737488351232) : wrap64 ((n : Int) - a) = ((n - a.toNat : Nat) : Int) := by
  unfold wrap64
  omega
/-- What okR says, to take a step apart. -/
theorem okR_parts {x : S45} {st : List S45} (h : okR x st = true) : 0 ≤ arR x.f0 ∧ arR x.f0 ≤ st.length ∧ ownR x = true ∧ fitsR x (st.drop (st.length - (arR x.f0).toNat)) = true := by
  unfold okR at h
  rw [Bool.and_eq_true, Bool.and_eq_true, Bool.and_eq_true, decide_eq_true_eq, decide_eq_true_eq] at h
  exact ⟨h.1.1.1, h.1.1.2, h.1.2, h.2⟩
theorem refCheck_loop {l : List S45} (hl : l.length ≤ 1024) (hs : ∀ x ∈ l, x.f1.size ≤ 140737488351232) : ∀ (d k i : Nat) (st : List S45), l.length - i = d → i ≤ l.length → d + 80 < k → st.length ≤ i → (∀ y ∈ st, y.f1.size ≤ 140737488351232) →
    shuttleref11_Check.l0 k l st i = some (G.rootC (G.runC (expr_Check.prs (l.drop i)) (st.map toP))) := by
  intro d
  induction d with
  | zero =>
    intro k i st hd hi hk hst hss
    obtain ⟨k, rfl⟩ : ∃ m, k = m + 1 := ⟨k - 1, by omega⟩
    obtain rfl : i = l.length := by omega
    unfold shuttleref11_Check.l0
    rw [if_neg (by omega), List.drop_length]
    show _ = some (G.rootC (some (st.map toP)))
    by_cases c : (st.length : Int) = 1
    · obtain ⟨y, rfl⟩ := List.length_eq_one_iff.1 (show st.length = 1 by omega)
      have e0 : rd_T45 [y] 0 = y := rfl
      rw [if_pos c, if_pos (by omega), e0]
      show _ = some (toP y).truth
      rw [toP_truth]
      unfold trR
      by_cases c1 : y.f0 = 1
      · rw [if_pos c1, c1]; rfl
      · rw [if_neg c1, bne_iff_ne.2 c1, Bool.true_and]
    · rw [if_neg c]
      match st, c with
      | [], _ => rfl
      | [y], c => exact absurd rfl c
      | y :: z :: r, _ => rfl
  | succ d ih =>
    intro k i st hd hi hk hst hss
    obtain ⟨k, rfl⟩ : ∃ m, k = m + 1 := ⟨k - 1, by omega⟩
    have hi' : i < l.length := by omega
    obtain ⟨x, hx⟩ : ∃ x, l[i] = x := ⟨_, rfl⟩
    have hxs := hs _ (List.getElem_mem hi')
    rw [prs_drop l i hi', hx]
    rw [hx] at hxs
    unfold shuttleref11_Check.l0
    rw [if_pos (by omega), if_pos (by omega), rd45 hi', hx, refArity_eq _ (by omega), Option.bind_some, refOwn_eq _ (by omega)]
    show _ = some (G.rootC ((G.stepC (st.map toP) x.f0 x.f1).bind (G.runC (expr_Check.prs (l.drop (i + 1))))))
    rw [stepC_ref]
    have bad : okR x st = false → some false = some (G.rootC ((if okR x st = true then some ((st.take (st.length - (arR x.f0).toNat) ++ [x]).map toP) else none).bind (G.runC (expr_Check.prs (l.drop (i + 1)))))) := by
      intro h
      rw [h, if_neg (by decide)]
      rfl
    by_cases c0 : arR x.f0 < 0
    · rw [if_pos c0]
      exact bad (by unfold okR; rw [decide_eq_false (by omega)]; rfl)
    rw [if_neg c0]
    by_cases c1 : arR x.f0 > (st.length : Int)
    · rw [if_pos c1]
      exact bad (by unfold okR; rw [decide_eq_false (show ¬ arR x.f0 ≤ (st.length : Int) by omega), Bool.and_false]; rfl)
    rw [if_neg c1, Option.bind_some]
    have ew := wrap_sub (show 0 ≤ arR x.f0 by omega) (show arR x.f0 ≤ (st.length : Int) by omega) (by omega)
    cases co : ownR x with
    | false =>
      rw [if_neg (by decide)]
      exact bad (by unfold okR; rw [co, Bool.and_false]; rfl)
    | true =>
      have hd2 : (st.drop (st.length - (arR x.f0).toNat)).length = (arR x.f0).toNat := by rw [List.length_drop]; omega
      rw [if_pos rfl, ew, if_pos (by omega), if_pos (by omega), Int.toNat_natCast, refFits_eq x _ (by omega) (by rw [hd2]; rcases arR_cases x.f0 with ⟨a, _⟩ | ⟨a, _⟩ | ⟨a, _⟩ | ⟨a, _⟩ <;> rw [a] <;> decide)
        (fun h9 => by rw [hd2]; rcases arR_cases x.f0 with ⟨a, _⟩ | ⟨a, _⟩ | ⟨a, _⟩ | ⟨a, _⟩ <;> first | (rw [a]; rfl) | omega) (fun y hy => hss y (List.mem_of_mem_drop hy)), Option.bind_some]
      cases cf : fitsR x (st.drop (st.length - (arR x.f0).toNat)) with
      | false =>
        rw [if_neg (by decide)]
        exact bad (by unfold okR; rw [cf, Bool.and_false])
      | true =>
        have ok : okR x st = true := by
          unfold okR
          rw [co, cf, decide_eq_true (show 0 ≤ arR x.f0 by omega), decide_eq_true (show arR x.f0 ≤ (st.length : Int) by omega)]
          rfl
        rw [if_pos rfl, Option.bind_some, if_pos (by rw [List.length_take]; omega), wrap_up hi' (by omega), ok, if_pos rfl, Option.bind_some]
        exact ih k (i + 1) _ (by omega) (by omega) (by omega) (by rw [List.length_append, List.length_take, List.length_singleton]; omega) (fun y hy => by
          rcases List.mem_append.1 hy with h | h
          · exact hss y (List.mem_of_mem_take h)
          · rw [List.mem_singleton.1 h]; exact hxs)
theorem refCheck_eq {l : List S45} (h : StepsFit l) {k : Nat} (hk : l.length + 81 < k) : shuttleref11_Check.f k l = some (okC l) := by
  unfold shuttleref11_Check.f okC G.checkB
  by_cases c : (l.length : Int) > 1024
  · rw [if_pos c, decide_eq_false (by unfold expr_Check.prs; rw [List.length_map]; omega)]
    rfl
  · rw [if_neg c, decide_eq_true (by unfold expr_Check.prs; rw [List.length_map]; omega), Bool.true_and]
    have := refCheck_loop (l := l) (by omega) h.each l.length k 0 [] (by omega) (Nat.zero_le _) (by omega) (Nat.zero_le _) (fun y hy => by cases hy)
    rw [List.drop_zero] at this
    exact this
end Go.Proofs.Ytinhlaiogkmkfaa.PA
end
section
-- Printed by a program of this session over the kit's print, with contracts of this session's own. Not trusted: Lean checks it.
namespace Go.Proofs.Ytinhlaiogkmkfaa.PA
open Go.RowKit Go.Proofs.YtinhlaiogkmkfaaW.PrintWords Go.Proofs.YtinhlaiogkmkfaaW.PrintLast Go.Proofs.YtinhlaiogkmkfaaW.PrintMore
attribute [local go_sem] max2_int min2_int max_two min_two max_three min_three max_four min_four   -- for this text's walks alone
set_option linter.unusedVariables false
set_option linter.unusedSimpArgs false

/-! ### shuttleref6_Match: function 71 (a contract of this session) -/
def shuttleref6_Match.f (a0 a1 : ByteArray) : Option (Bool × Int) := if a0.size ≤ 9223372036854775807 then (if a1.size ≤ 9223372036854775807 then some (G.matchRes a0 a1) else none) else none
theorem shuttleref6_Match.calls (a0 a1 : ByteArray) (r1 : Bool) (r2 : Int) (w : World) (h : shuttleref6_Match.f a0 a1 = some (r1, r2)) :
    Calls Try.prog 71 #[.string a0, .string a1] w fun e w' => e = .returned (.tuple #[.bool r1, .int .i64 r2]) ∧ Below w.heap.size w w' := by
  unfold shuttleref6_Match.f at h
  by_cases h0 : a0.size ≤ 9223372036854775807
  · by_cases h1 : a1.size ≤ 9223372036854775807
    · rw [if_pos h0, if_pos h1] at h
      have h2 := Option.some.inj h
      rw [← G.rmatch_eq] at h2
      refine (G.rmatch0 a0 a1 w h0 h1).mono fun e w' ⟨he, hb⟩ => ⟨?_, hb.belowNo⟩
      rw [he, h2]
    · rw [if_pos h0, if_neg h1] at h
      cases h
  · rw [if_neg h0] at h
    cases h

theorem bneNil (l : List UInt8) : (!l.isEmpty) = (l != []) := by cases l <;> rfl
/-! ### shuttleref12_like: function 52 -/
def shuttleref12_like.f (a0 : ByteArray) (a1 : ByteArray) : Option (Bool) := (shuttleref6_Match.f a1 a0).bind fun bt139 => (some bt139.1)
set_option maxHeartbeats 8000000 in
set_option maxRecDepth 100000 in
theorem shuttleref12_like.calls (a0 : ByteArray) (a1 : ByteArray) (r : Bool) (w : World) (h : shuttleref12_like.f a0 a1 = some r) :
    Calls Try.prog 52 #[.string a0, .string a1] w fun e w' => e = .returned (.bool r) ∧ Below w.heap.size w w' := by
  have HB := Aside0.mk (Below.refl w.heap.size w)
  have H : ((shuttleref6_Match.f a1 a0).bind fun bt139 => (some bt139.1)) = some r := h
  clear h
  replace H := Option.bind_eq_some_iff.mp H
  obtain ⟨⟨t139, t140⟩, A30, H⟩ := H
  replace H : (some t139) = some r := H
  have A3 := Aside0.mk A30
  clear A30
  obtain rfl := Option.some.inj H
  go_enter Try.func52, Try.ntmps52
  go_wp2_with (first | ((with_reducible refine gate_callee (f := 71) rfl ?_); refine goesL_ (some 10) rfl rfl Try.func71 (by kernel_rfl) rfl #[.string a1, .string a0] rfl (by (try simp only [List.map_toArray, List.map_cons, List.map_nil]); first | done | rfl | (simp only [List.length_drop, List.length_take]; rfl)) ?_; (with_reducible refine (shuttleref6_Match.calls a1 a0 t139 t140 _ A3.out).mono ?_); rintro e w4 ⟨rfl, hb⟩; refine ⟨_, rfl, ?_⟩; have n0_ := Aside0.mk (below_step (by repeat (first | (with_reducible first | exact HB.out | apply below_alloc | apply pw_below_drewN | apply below_drew1) | exact HB.out)) hb); clear HB; have HB := n0_; clear n0_; (try clear hb); (try clear hb2); (try clear hk); (try clear hi)))
  go_ret
  exact ⟨by first | rfl | (simp [errW_none, errW_some] <;> rfl) | (simp [*, errW_none, errW_some] <;> rfl), by repeat (first | (with_reducible first | exact HB.out | apply below_alloc | apply pw_below_drewN | apply below_drew1) | exact HB.out)⟩

/-! ### shuttleref12_step: function 34 -/
def shuttleref12_step.f (k : Nat) (a0_0 : Int) (a0_1 : ByteArray) (l1 : List (S59)) (l2 : List (S56)) : Option (ByteArray × Bool) := if a0_0 = 1 then (some (a0_1, false)) else (if a0_0 = 2 then ((shuttleref10_Get.f k l2 a0_1).bind fun bt143 => (some (bt143.1, false))) else (if a0_0 = 3 then ((shuttleref10_Get.f k l2 a0_1).bind fun bt145 => (some ((⟨#[]⟩ : ByteArray), bt145.2))) else (if a0_0 = 4 then (some ((⟨#[]⟩ : ByteArray), true)) else (if a0_0 = 6 then (if 0 < (l1.length : Int) then (some ((⟨#[]⟩ : ByteArray), (((rd_T59 l1 0).f0).toList != ([] : List UInt8)))) else (none)) else (if a0_0 = 7 then (if 0 < (l1.length : Int) then (if 1 < (l1.length : Int) then (some ((⟨#[]⟩ : ByteArray), (((rd_T59 l1 0).f0).toList == ((rd_T59 l1 1).f0).toList))) else (none)) else (none)) else (if a0_0 = 8 then (if 0 < (l1.length : Int) then (if 1 < (l1.length : Int) then (some ((⟨#[]⟩ : ByteArray), (((rd_T59 l1 0).f0).toList != ((rd_T59 l1 1).f0).toList))) else (none)) else (none)) else (if a0_0 = 9 then (if 0 < (l1.length : Int) then (if 1 < (l1.length : Int) then ((shuttleref12_like.f ((rd_T59 l1 0).f0) ((rd_T59 l1 1).f0)).bind fun t154 => (some ((⟨#[]⟩ : ByteArray), t154))) else (none)) else (none)) else (if a0_0 = 10 then (if 0 < (l1.length : Int) then (if 1 < (l1.length : Int) then ((shuttleref12_like.f ((rd_T59 l1 0).f0) ((rd_T59 l1 1).f0)).bind fun t157 => (some ((⟨#[]⟩ : ByteArray), !t157))) else (none)) else (none)) else (if a0_0 = 11 then (if 0 < (l1.length : Int) then (some ((⟨#[]⟩ : ByteArray), !((rd_T59 l1 0).f1))) else (none)) else (if a0_0 = 12 then (if 0 < (l1.length : Int) then (if (rd_T59 l1 0).f1 = true then (if 1 < (l1.length : Int) then (some ((⟨#[]⟩ : ByteArray), (rd_T59 l1 1).f1)) else (none)) else (some ((⟨#[]⟩ : ByteArray), false))) else (none)) else (if a0_0 = 13 then (if 0 < (l1.length : Int) then (if (rd_T59 l1 0).f1 = true then (some ((⟨#[]⟩ : ByteArray), true)) else (if 1 < (l1.length : Int) then (some ((⟨#[]⟩ : ByteArray), (rd_T59 l1 1).f1)) else (none))) else (none)) else (some ((⟨#[]⟩ : ByteArray), false)))))))))))))
end Go.Proofs.Ytinhlaiogkmkfaa.PA
end
section
/- The reference's step, walked by hand (the print of it is 177 kB). -/
namespace Go.Proofs.Ytinhlaiogkmkfaa.PA
open Go.RowKit Go.Proofs.YtinhlaiogkmkfaaW.PrintWords Go.Proofs.YtinhlaiogkmkfaaW.PrintLast Go.Proofs.YtinhlaiogkmkfaaW.PrintMore Go.Proofs.Ytinhlaiogkmkfaa.G
attribute [local simp, local go_sem] alloc_drewN setCell_drewN
set_option linter.unusedVariables false
set_option linter.unusedSimpArgs false
set_option maxRecDepth 100000
def StepPost (w : World) (r : ByteArray × Bool) (e : Ending) (w' : World) : Prop := e = .returned (.agg #[.string r.1, .bool r.2]) ∧ Below w.heap.size w w'
theorem like_after {w W w1 : World} {g o G : Nat} {sp : Option Nat} {a b : ByteArray} (hb1 : Below W.heap.size W w1) (hW : Below w.heap.size w W) (h0 : w.cell? ⟨g, o, sp⟩ = some (.string a)) (h2 : w.cell? ⟨g, o + 2, none⟩ = some (.string b)) (hG : W.heap[G]? = some (.cells #[.string ⟨#[]⟩, .bool false] 59 (0, 0))) :
    w1.cell? ⟨g, o, sp⟩ = some (.string a) ∧ w1.cell? ⟨g, o + 2, none⟩ = some (.string b) ∧ w1.cell? ⟨G, 0, none⟩ = some (.string ⟨#[]⟩) ∧ w1.cell? ⟨G, 1, none⟩ = some (.bool false) ∧ (∀ i, w1.frozen? ⟨G, i, none⟩ = false) ∧ w1.heap[G]? = some (.cells #[.string ⟨#[]⟩, .bool false] 59 (0, 0)) := by
  have hg := World.block_lt_of_cell? w _ h0
  have hg2 := World.block_lt_of_cell? w _ h2
  have hG1 := (hb1.block G (lt_of_block hG)).trans hG
  have e0 := (hW.cell (p := ⟨g, o, sp⟩) hg).trans h0
  have e2 := (hW.cell (p := ⟨g, o + 2, none⟩) hg2).trans h2
  have l := hW.size
  exact ⟨(hb1.cell (p := ⟨g, o, sp⟩) (Nat.lt_of_lt_of_le hg l)).trans e0, (hb1.cell (p := ⟨g, o + 2, none⟩) (Nat.lt_of_lt_of_le hg2 l)).trans e2, (cell_of_row _ _ 0 _ _ _ hG1).trans rfl, (cell_of_row _ _ 1 _ _ _ hG1).trans rfl, fun i => blkfree hG1 i, hG1⟩
section
variable (tx : ByteArray) (A1 : Option Addr) (n1 c1 : Nat) (A2 : Option Addr) (c2 : Nat) (l2 : List S56) (w : World)
set_option maxHeartbeats 8000000 in
theorem refStep1  : Calls Try.prog 34 #[.agg #[.int .i64 1, .string tx], .slice A1 n1 c1, .slice A2 l2.length c2] w (StepPost w (tx, false)) := by
  go_enter Try.func34, Try.ntmps34
  go_wp2_with fail
  refine bodyPost_ret (v := .agg #[.string tx, .bool false]) (by simp [results, Try.results34, go_sem]) rfl ⟨rfl, ?_⟩
  exact ((Below.refl _ _).alloc (Nat.le_refl _) _).alloc (by simp) _
set_option maxHeartbeats 8000000 in
theorem refStep4  : Calls Try.prog 34 #[.agg #[.int .i64 4, .string tx], .slice A1 n1 c1, .slice A2 l2.length c2] w (StepPost w ((⟨#[]⟩ : ByteArray), true)) := by
  go_enter Try.func34, Try.ntmps34
  go_wp2_with fail
  refine bodyPost_ret (v := .agg #[.string (⟨#[]⟩ : ByteArray), .bool true]) (by simp [results, Try.results34, go_sem]) rfl ⟨rfl, ?_⟩
  exact ((Below.refl _ _).alloc (Nat.le_refl _) _).alloc (by simp) _
set_option maxHeartbeats 8000000 in
theorem refStepE (kk : Int) (e1 : (kk == 1) = false) (e2 : (kk == 2) = false) (e3 : (kk == 3) = false) (e4 : (kk == 4) = false) (e6 : (kk == 6) = false) (e7 : (kk == 7) = false) (e8 : (kk == 8) = false) (e9 : (kk == 9) = false) (e10 : (kk == 10) = false) (e11 : (kk == 11) = false) (e12 : (kk == 12) = false) (e13 : (kk == 13) = false) : Calls Try.prog 34 #[.agg #[.int .i64 kk, .string tx], .slice A1 n1 c1, .slice A2 l2.length c2] w (StepPost w ((⟨#[]⟩ : ByteArray), false)) := by
  go_enter Try.func34, Try.ntmps34
  go_wp2_with fail
  refine bodyPost_ret (v := .agg #[.string (⟨#[]⟩ : ByteArray), .bool false]) (by simp [results, Try.results34, go_sem]) rfl ⟨rfl, ?_⟩
  exact ((Below.refl _ _).alloc (Nat.le_refl _) _).alloc (by simp) _
set_option maxHeartbeats 8000000 in
theorem refStep2 (k : Nat) (t : ByteArray) (b : Bool) (hr : Kd.C k56 w A2 l2.length l2) (hc : l2.length ≤ c2) (hf : shuttleref10_Get.f k l2 tx = some (t, b)) : Calls Try.prog 34 #[.agg #[.int .i64 2, .string tx], .slice A1 n1 c1, .slice A2 l2.length c2] w (StepPost w (t, false)) := by
  have HR := Lib.hid hr
  have HF := Lib.hid hf
  clear hr hf
  go_enter Try.func34, Try.ntmps34
  go_wp2_with fail
  refine (shuttleref10_Get.calls k A2 c2 l2 tx t b _ (Kd.C_below HR.out (((Below.refl _ _).alloc (Nat.le_refl _) _).alloc (by simp) _)) hc HF.out).mono ?_
  rintro e w1 ⟨rfl, hd⟩
  obtain ⟨nq, rfl⟩ := hd
  go_wp2_with fail
  refine bodyPost_ret (v := .agg #[.string t, .bool false]) (by simp [results, Try.results34, go_sem]) rfl ⟨rfl, ?_⟩
  exact (by repeat (first | exact Below.refl _ _ | (refine Below.alloc ?_ (by simp) _) | (refine pw_below_drewN ?_ _)))
set_option maxHeartbeats 8000000 in
theorem refStep3 (k : Nat) (t : ByteArray) (b : Bool) (hr : Kd.C k56 w A2 l2.length l2) (hc : l2.length ≤ c2) (hf : shuttleref10_Get.f k l2 tx = some (t, b)) : Calls Try.prog 34 #[.agg #[.int .i64 3, .string tx], .slice A1 n1 c1, .slice A2 l2.length c2] w (StepPost w ((⟨#[]⟩ : ByteArray), b)) := by
  have HR := Lib.hid hr
  have HF := Lib.hid hf
  clear hr hf
  go_enter Try.func34, Try.ntmps34
  go_wp2_with fail
  refine (shuttleref10_Get.calls k A2 c2 l2 tx t b _ (Kd.C_below HR.out (((Below.refl _ _).alloc (Nat.le_refl _) _).alloc (by simp) _)) hc HF.out).mono ?_
  rintro e w1 ⟨rfl, hd⟩
  obtain ⟨nq, rfl⟩ := hd
  go_wp2_with fail
  refine bodyPost_ret (v := .agg #[.string (⟨#[]⟩ : ByteArray), .bool b]) (by simp [results, Try.results34, go_sem]) rfl ⟨rfl, ?_⟩
  exact (by repeat (first | exact Below.refl _ _ | (refine Below.alloc ?_ (by simp) _) | (refine pw_below_drewN ?_ _)))
set_option maxHeartbeats 8000000 in
theorem refStep6 (g o n1 : Nat) (sp : Option Nat) (hn : 1 ≤ n1) (y z : S59) (h0 : w.cell? ⟨g, o, sp⟩ = some (.string y.f0)) (h1 : w.cell? ⟨g, o + 1, none⟩ = some (.bool y.f1)) : Calls Try.prog 34 #[.agg #[.int .i64 6, .string tx], .slice (some ⟨g, o, sp⟩) n1 c1, .slice A2 l2.length c2] w (StepPost w ((⟨#[]⟩ : ByteArray), y.f0.toList != [])) := by
  have hn0 : 0 < n1 := by omega
  have hn0b : decide (0 < n1) = true := decide_eq_true hn0
  obtain ⟨yt, yb⟩ := y
  obtain ⟨zt, zb⟩ := z
  dsimp only at *
  have hgl := World.block_lt_of_cell? w _ h0
  have hgl' : g < w.heap.size := hgl
  go_enter Try.func34, Try.ntmps34
  go_wp2_with fail
  refine bodyPost_ret (v := .agg #[.string (⟨#[]⟩ : ByteArray), .bool (!yt.toList.isEmpty)]) (by simp [results, Try.results34, go_sem]) rfl ⟨by rw [bneNil], ?_⟩
  exact ((Below.refl _ _).alloc (Nat.le_refl _) _).alloc (by simp) _
set_option maxHeartbeats 8000000 in
theorem refStep11 (g o n1 : Nat) (sp : Option Nat) (hn : 1 ≤ n1) (y z : S59) (h0 : w.cell? ⟨g, o, sp⟩ = some (.string y.f0)) (h1 : w.cell? ⟨g, o + 1, none⟩ = some (.bool y.f1)) : Calls Try.prog 34 #[.agg #[.int .i64 11, .string tx], .slice (some ⟨g, o, sp⟩) n1 c1, .slice A2 l2.length c2] w (StepPost w ((⟨#[]⟩ : ByteArray), !y.f1)) := by
  have hn0 : 0 < n1 := by omega
  have hn0b : decide (0 < n1) = true := decide_eq_true hn0
  obtain ⟨yt, yb⟩ := y
  obtain ⟨zt, zb⟩ := z
  dsimp only at *
  have hgl := World.block_lt_of_cell? w _ h0
  have hgl' : g < w.heap.size := hgl
  go_enter Try.func34, Try.ntmps34
  go_wp2_with fail
  refine bodyPost_ret (v := .agg #[.string (⟨#[]⟩ : ByteArray), .bool (!yb)]) (by simp [results, Try.results34, go_sem]) rfl ⟨rfl, ?_⟩
  exact ((Below.refl _ _).alloc (Nat.le_refl _) _).alloc (by simp) _
set_option maxHeartbeats 8000000 in
theorem refStep12f (g o n1 : Nat) (sp : Option Nat) (hn : 1 ≤ n1) (y z : S59) (h0 : w.cell? ⟨g, o, sp⟩ = some (.string y.f0)) (h1 : w.cell? ⟨g, o + 1, none⟩ = some (.bool y.f1)) (hy : y.f1 = false) : Calls Try.prog 34 #[.agg #[.int .i64 12, .string tx], .slice (some ⟨g, o, sp⟩) n1 c1, .slice A2 l2.length c2] w (StepPost w ((⟨#[]⟩ : ByteArray), false)) := by
  have hn0 : 0 < n1 := by omega
  have hn0b : decide (0 < n1) = true := decide_eq_true hn0
  obtain ⟨yt, yb⟩ := y
  obtain ⟨zt, zb⟩ := z
  dsimp only at *
  subst hy
  have hgl := World.block_lt_of_cell? w _ h0
  have hgl' : g < w.heap.size := hgl
  go_enter Try.func34, Try.ntmps34
  go_wp2_with fail
  refine bodyPost_ret (v := .agg #[.string (⟨#[]⟩ : ByteArray), .bool false]) (by simp [results, Try.results34, go_sem]) rfl ⟨rfl, ?_⟩
  exact ((Below.refl _ _).alloc (Nat.le_refl _) _).alloc (by simp) _
set_option maxHeartbeats 8000000 in
theorem refStep12t (g o n1 : Nat) (sp : Option Nat) (hn : 2 ≤ n1) (y z : S59) (h0 : w.cell? ⟨g, o, sp⟩ = some (.string y.f0)) (h1 : w.cell? ⟨g, o + 1, none⟩ = some (.bool y.f1)) (h2 : w.cell? ⟨g, o + 2, none⟩ = some (.string z.f0)) (h3 : w.cell? ⟨g, o + 2 + 1, none⟩ = some (.bool z.f1)) (hy : y.f1 = true) : Calls Try.prog 34 #[.agg #[.int .i64 12, .string tx], .slice (some ⟨g, o, sp⟩) n1 c1, .slice A2 l2.length c2] w (StepPost w ((⟨#[]⟩ : ByteArray), z.f1)) := by
  have hn0 : 0 < n1 := by omega
  have hn0b : decide (0 < n1) = true := decide_eq_true hn0
  obtain ⟨yt, yb⟩ := y
  obtain ⟨zt, zb⟩ := z
  dsimp only at *
  subst hy
  have hgl := World.block_lt_of_cell? w _ h0
  have hgl' : g < w.heap.size := hgl
  have hn1 : 1 < n1 := hn
  have hn1b : decide (1 < n1) = true := decide_eq_true hn1
  have hn1i : (1 : Int) < (n1 : Int) := by omega
  have hn1j : decide ((1 : Int) < (n1 : Int)) = true := decide_eq_true hn1i
  go_enter Try.func34, Try.ntmps34
  go_wp2_with fail
  refine bodyPost_ret (v := .agg #[.string (⟨#[]⟩ : ByteArray), .bool zb]) (by simp [results, Try.results34, go_sem]) rfl ⟨rfl, ?_⟩
  exact ((Below.refl _ _).alloc (Nat.le_refl _) _).alloc (by simp) _
set_option maxHeartbeats 8000000 in
theorem refStep13t (g o n1 : Nat) (sp : Option Nat) (hn : 1 ≤ n1) (y z : S59) (h0 : w.cell? ⟨g, o, sp⟩ = some (.string y.f0)) (h1 : w.cell? ⟨g, o + 1, none⟩ = some (.bool y.f1)) (hy : y.f1 = true) : Calls Try.prog 34 #[.agg #[.int .i64 13, .string tx], .slice (some ⟨g, o, sp⟩) n1 c1, .slice A2 l2.length c2] w (StepPost w ((⟨#[]⟩ : ByteArray), true)) := by
  have hn0 : 0 < n1 := by omega
  have hn0b : decide (0 < n1) = true := decide_eq_true hn0
  obtain ⟨yt, yb⟩ := y
  obtain ⟨zt, zb⟩ := z
  dsimp only at *
  subst hy
  have hgl := World.block_lt_of_cell? w _ h0
  have hgl' : g < w.heap.size := hgl
  go_enter Try.func34, Try.ntmps34
  go_wp2_with fail
  refine bodyPost_ret (v := .agg #[.string (⟨#[]⟩ : ByteArray), .bool true]) (by simp [results, Try.results34, go_sem]) rfl ⟨rfl, ?_⟩
  exact ((Below.refl _ _).alloc (Nat.le_refl _) _).alloc (by simp) _
set_option maxHeartbeats 8000000 in
theorem refStep13f (g o n1 : Nat) (sp : Option Nat) (hn : 2 ≤ n1) (y z : S59) (h0 : w.cell? ⟨g, o, sp⟩ = some (.string y.f0)) (h1 : w.cell? ⟨g, o + 1, none⟩ = some (.bool y.f1)) (h2 : w.cell? ⟨g, o + 2, none⟩ = some (.string z.f0)) (h3 : w.cell? ⟨g, o + 2 + 1, none⟩ = some (.bool z.f1)) (hy : y.f1 = false) : Calls Try.prog 34 #[.agg #[.int .i64 13, .string tx], .slice (some ⟨g, o, sp⟩) n1 c1, .slice A2 l2.length c2] w (StepPost w ((⟨#[]⟩ : ByteArray), z.f1)) := by
  have hn0 : 0 < n1 := by omega
  have hn0b : decide (0 < n1) = true := decide_eq_true hn0
  obtain ⟨yt, yb⟩ := y
  obtain ⟨zt, zb⟩ := z
  dsimp only at *
  subst hy
  have hgl := World.block_lt_of_cell? w _ h0
  have hgl' : g < w.heap.size := hgl
  have hn1 : 1 < n1 := hn
  have hn1b : decide (1 < n1) = true := decide_eq_true hn1
  have hn1i : (1 : Int) < (n1 : Int) := by omega
  have hn1j : decide ((1 : Int) < (n1 : Int)) = true := decide_eq_true hn1i
  go_enter Try.func34, Try.ntmps34
  go_wp2_with fail
  refine bodyPost_ret (v := .agg #[.string (⟨#[]⟩ : ByteArray), .bool zb]) (by simp [results, Try.results34, go_sem]) rfl ⟨rfl, ?_⟩
  exact ((Below.refl _ _).alloc (Nat.le_refl _) _).alloc (by simp) _
set_option maxHeartbeats 8000000 in
theorem refStep7 (g o n1 : Nat) (sp : Option Nat) (hn : 2 ≤ n1) (y z : S59) (h0 : w.cell? ⟨g, o, sp⟩ = some (.string y.f0)) (h1 : w.cell? ⟨g, o + 1, none⟩ = some (.bool y.f1)) (h2 : w.cell? ⟨g, o + 2, none⟩ = some (.string z.f0)) (h3 : w.cell? ⟨g, o + 2 + 1, none⟩ = some (.bool z.f1)) : Calls Try.prog 34 #[.agg #[.int .i64 7, .string tx], .slice (some ⟨g, o, sp⟩) n1 c1, .slice A2 l2.length c2] w (StepPost w ((⟨#[]⟩ : ByteArray), y.f0.toList == z.f0.toList)) := by
  have hn0 : 0 < n1 := by omega
  have hn0b : decide (0 < n1) = true := decide_eq_true hn0
  obtain ⟨yt, yb⟩ := y
  obtain ⟨zt, zb⟩ := z
  dsimp only at *
  have hgl := World.block_lt_of_cell? w _ h0
  have hgl' : g < w.heap.size := hgl
  have hn1 : 1 < n1 := hn
  have hn1b : decide (1 < n1) = true := decide_eq_true hn1
  have hn1i : (1 : Int) < (n1 : Int) := by omega
  have hn1j : decide ((1 : Int) < (n1 : Int)) = true := decide_eq_true hn1i
  go_enter Try.func34, Try.ntmps34
  go_wp2_with fail
  go_region
  all_goals
    go_wp2_with fail
    refine bodyPost_ret (v := .agg #[.string (⟨#[]⟩ : ByteArray), .bool (yt.toList == zt.toList)]) (by simp [results, Try.results34, go_sem]) rfl ⟨rfl, ?_⟩
    exact (by repeat (first | exact Below.refl _ _ | (refine Below.alloc ?_ (by simp) _) | (refine Below.drew ?_) | (refine Below.setCell ?_ (by simp) _)))
set_option maxHeartbeats 8000000 in
theorem refStep8 (g o n1 : Nat) (sp : Option Nat) (hn : 2 ≤ n1) (y z : S59) (h0 : w.cell? ⟨g, o, sp⟩ = some (.string y.f0)) (h1 : w.cell? ⟨g, o + 1, none⟩ = some (.bool y.f1)) (h2 : w.cell? ⟨g, o + 2, none⟩ = some (.string z.f0)) (h3 : w.cell? ⟨g, o + 2 + 1, none⟩ = some (.bool z.f1)) : Calls Try.prog 34 #[.agg #[.int .i64 8, .string tx], .slice (some ⟨g, o, sp⟩) n1 c1, .slice A2 l2.length c2] w (StepPost w ((⟨#[]⟩ : ByteArray), y.f0.toList != z.f0.toList)) := by
  have hn0 : 0 < n1 := by omega
  have hn0b : decide (0 < n1) = true := decide_eq_true hn0
  obtain ⟨yt, yb⟩ := y
  obtain ⟨zt, zb⟩ := z
  dsimp only at *
  have hgl := World.block_lt_of_cell? w _ h0
  have hgl' : g < w.heap.size := hgl
  have hn1 : 1 < n1 := hn
  have hn1b : decide (1 < n1) = true := decide_eq_true hn1
  have hn1i : (1 : Int) < (n1 : Int) := by omega
  have hn1j : decide ((1 : Int) < (n1 : Int)) = true := decide_eq_true hn1i
  go_enter Try.func34, Try.ntmps34
  go_wp2_with fail
  go_region
  all_goals
    go_wp2_with fail
    refine bodyPost_ret (v := .agg #[.string (⟨#[]⟩ : ByteArray), .bool (!(yt.toList == zt.toList))]) (by simp [results, Try.results34, go_sem]) rfl ⟨rfl, ?_⟩
    exact (by repeat (first | exact Below.refl _ _ | (refine Below.alloc ?_ (by simp) _) | (refine Below.drew ?_) | (refine Below.setCell ?_ (by simp) _)))
set_option maxHeartbeats 8000000 in
theorem refStep9 (g o n1 : Nat) (sp : Option Nat) (hn : 2 ≤ n1) (y z : S59) (h0 : w.cell? ⟨g, o, sp⟩ = some (.string y.f0)) (h1 : w.cell? ⟨g, o + 1, none⟩ = some (.bool y.f1)) (h2 : w.cell? ⟨g, o + 2, none⟩ = some (.string z.f0)) (h3 : w.cell? ⟨g, o + 2 + 1, none⟩ = some (.bool z.f1)) (b : Bool) (hf : shuttleref12_like.f y.f0 z.f0 = some b) : Calls Try.prog 34 #[.agg #[.int .i64 9, .string tx], .slice (some ⟨g, o, sp⟩) n1 c1, .slice A2 l2.length c2] w (StepPost w ((⟨#[]⟩ : ByteArray), b)) := by
  have HF := Lib.hid hf
  clear hf
  have hn0 : 0 < n1 := by omega
  have hn0b : decide (0 < n1) = true := decide_eq_true hn0
  obtain ⟨yt, yb⟩ := y
  obtain ⟨zt, zb⟩ := z
  dsimp only at HF h0 h1 h2 h3
  have hgl := World.block_lt_of_cell? w _ h0
  have hgl' : g < w.heap.size := hgl
  have hn1 : 1 < n1 := hn
  have hn1b : decide (1 < n1) = true := decide_eq_true hn1
  have hn1i : (1 : Int) < (n1 : Int) := by omega
  have hn1j : decide ((1 : Int) < (n1 : Int)) = true := decide_eq_true hn1i
  have hlk : ∀ W : World, Below w.heap.size w W → Calls Try.prog 52 #[.string yt, .string zt] W fun e w' => e = .returned (.bool b) ∧ Below W.heap.size W w' := fun W _ => shuttleref12_like.calls yt zt b W HF.out
  have HLK := Lib.hid hlk
  clear hlk
  go_enter Try.func34, Try.ntmps34
  go_wp2_with fail
  go_region_held3 (fun w' => w'.cell? ⟨g, o, sp⟩ = some (.string yt) ∧ w'.cell? ⟨g, o + 2, none⟩ = some (.string zt)) (first | go_keep | exact ⟨z0, z2⟩ | exact ⟨(((But.refl (One (w.heap.size + 1)) w1).set1 0 _).set1 1 _).cell_some z0 (show ¬ g = w.heap.size + 1 by omega), (((But.refl (One (w.heap.size + 1)) w1).set1 0 _).set1 1 _).cell_some z2 (show ¬ g = w.heap.size + 1 by omega)⟩) ((go_at_call 52; refine (HLK.out _ (by repeat (first | exact Below.refl _ _ | (refine Below.alloc ?_ (by simp) _) | (refine Below.drew ?_)))).mono ?_; rintro e w1 ⟨rfl, hb1⟩; have HB1 := Lib.hid hb1; obtain ⟨z0, z2, zc, zd, ze, zf⟩ := like_after hb1 (by repeat (first | exact Below.refl _ _ | (refine Below.alloc ?_ (by simp) _) | (refine Below.drew ?_))) h0 h2 (G := w.heap.size + 1) (heap_alloc2_new w _ _)))
  all_goals
    go_wp2_with fail
    refine bodyPost_ret (v := .agg #[.string (⟨#[]⟩ : ByteArray), .bool b]) (by simp [results, Try.results34, go_sem, zc, zd, ze]) rfl ⟨rfl, ?_⟩
    exact ((Below.trans (by repeat (first | exact Below.refl _ _ | (refine Below.alloc ?_ (by simp) _) | (refine Below.drew ?_))) (hb1.mono (by simp; omega))).setCell (p := ⟨w.heap.size + 1, 0, none⟩) (show w.heap.size ≤ w.heap.size + 1 by omega) _).setCell (p := ⟨w.heap.size + 1, 1, none⟩) (show w.heap.size ≤ w.heap.size + 1 by omega) _
set_option maxHeartbeats 8000000 in
theorem refStep10 (g o n1 : Nat) (sp : Option Nat) (hn : 2 ≤ n1) (y z : S59) (h0 : w.cell? ⟨g, o, sp⟩ = some (.string y.f0)) (h1 : w.cell? ⟨g, o + 1, none⟩ = some (.bool y.f1)) (h2 : w.cell? ⟨g, o + 2, none⟩ = some (.string z.f0)) (h3 : w.cell? ⟨g, o + 2 + 1, none⟩ = some (.bool z.f1)) (b : Bool) (hf : shuttleref12_like.f y.f0 z.f0 = some b) : Calls Try.prog 34 #[.agg #[.int .i64 10, .string tx], .slice (some ⟨g, o, sp⟩) n1 c1, .slice A2 l2.length c2] w (StepPost w ((⟨#[]⟩ : ByteArray), !b)) := by
  have HF := Lib.hid hf
  clear hf
  have hn0 : 0 < n1 := by omega
  have hn0b : decide (0 < n1) = true := decide_eq_true hn0
  obtain ⟨yt, yb⟩ := y
  obtain ⟨zt, zb⟩ := z
  dsimp only at HF h0 h1 h2 h3
  have hgl := World.block_lt_of_cell? w _ h0
  have hgl' : g < w.heap.size := hgl
  have hn1 : 1 < n1 := hn
  have hn1b : decide (1 < n1) = true := decide_eq_true hn1
  have hn1i : (1 : Int) < (n1 : Int) := by omega
  have hn1j : decide ((1 : Int) < (n1 : Int)) = true := decide_eq_true hn1i
  have hlk : ∀ W : World, Below w.heap.size w W → Calls Try.prog 52 #[.string yt, .string zt] W fun e w' => e = .returned (.bool b) ∧ Below W.heap.size W w' := fun W _ => shuttleref12_like.calls yt zt b W HF.out
  have HLK := Lib.hid hlk
  clear hlk
  go_enter Try.func34, Try.ntmps34
  go_wp2_with fail
  go_region_held3 (fun w' => w'.cell? ⟨g, o, sp⟩ = some (.string yt) ∧ w'.cell? ⟨g, o + 2, none⟩ = some (.string zt)) (first | go_keep | exact ⟨z0, z2⟩ | exact ⟨(((But.refl (One (w.heap.size + 1)) w1).set1 0 _).set1 1 _).cell_some z0 (show ¬ g = w.heap.size + 1 by omega), (((But.refl (One (w.heap.size + 1)) w1).set1 0 _).set1 1 _).cell_some z2 (show ¬ g = w.heap.size + 1 by omega)⟩) ((go_at_call 52; refine (HLK.out _ (by repeat (first | exact Below.refl _ _ | (refine Below.alloc ?_ (by simp) _) | (refine Below.drew ?_)))).mono ?_; rintro e w1 ⟨rfl, hb1⟩; have HB1 := Lib.hid hb1; obtain ⟨z0, z2, zc, zd, ze, zf⟩ := like_after hb1 (by repeat (first | exact Below.refl _ _ | (refine Below.alloc ?_ (by simp) _) | (refine Below.drew ?_))) h0 h2 (G := w.heap.size + 1) (heap_alloc2_new w _ _)))
  all_goals
    go_wp2_with fail
    refine bodyPost_ret (v := .agg #[.string (⟨#[]⟩ : ByteArray), .bool (!b)]) (by simp [results, Try.results34, go_sem, zc, zd, ze]) rfl ⟨rfl, ?_⟩
    exact ((Below.trans (by repeat (first | exact Below.refl _ _ | (refine Below.alloc ?_ (by simp) _) | (refine Below.drew ?_))) (hb1.mono (by simp; omega))).setCell (p := ⟨w.heap.size + 1, 0, none⟩) (show w.heap.size ≤ w.heap.size + 1 by omega) _).setCell (p := ⟨w.heap.size + 1, 1, none⟩) (show w.heap.size ≤ w.heap.size + 1 by omega) _
end
theorem at_part {w : World} {A : Option Addr} {l : List S59} (h : Kd.C k59 w A l.length l) (hl : 1 ≤ l.length) : ∃ g o sp, A = some ⟨g, o, sp⟩ ∧ w.cell? ⟨g, o, sp⟩ = some (.string (rd_T59 l 0).f0) ∧ w.cell? ⟨g, o + 1, none⟩ = some (.bool (rd_T59 l 0).f1) ∧
    (2 ≤ l.length → w.cell? ⟨g, o + 2, none⟩ = some (.string (rd_T59 l 1).f0) ∧ w.cell? ⟨g, o + 2 + 1, none⟩ = some (.bool (rd_T59 l 1).f1)) := by
  obtain ⟨⟨g, o, sp⟩, e, h1, h2⟩ := at_T59 h 0 (Int.le_refl 0) (by omega)
  refine ⟨g, o, sp, e, h1, h2, fun h2l => ?_⟩
  obtain ⟨ad, e', h3, h4⟩ := at_T59 h 1 (by decide) (by omega)
  obtain rfl := Option.some.inj (e.symm.trans e')
  exact ⟨h3, h4⟩
set_option maxHeartbeats 4000000 in
theorem shuttleref12_step.calls (k : Nat) (a0_0 : Int) (a0_1 : ByteArray) (A1 : Option Addr) (c1 : Nat) (l1 : List (S59)) (A2 : Option Addr) (c2 : Nat) (l2 : List (S56)) (r1 : ByteArray) (r2 : Bool) (w : World) (hr1 : Kd.C k59 w A1 l1.length l1) (hc1 : l1.length ≤ c1) (hr2 : Kd.C k56 w A2 l2.length l2) (hc2 : l2.length ≤ c2) (h : shuttleref12_step.f k a0_0 a0_1 l1 l2 = some (r1, r2)) :
    Calls Try.prog 34 #[.agg #[.int .i64 a0_0, .string a0_1], .slice A1 l1.length c1, .slice A2 l2.length c2] w fun e w' => e = .returned (.agg #[.string r1, .bool r2]) ∧ Below w.heap.size w w' := by
  have inj : ∀ {a b : ByteArray} {x y : Bool}, some (a, x) = some (b, y) → a = b ∧ x = y := fun h => by simpa using h
  unfold shuttleref12_step.f at h
  by_cases d1 : a0_0 = 1
  · rw [if_pos d1] at h; obtain ⟨rfl, rfl⟩ := inj h; subst d1
    exact refStep1 _ _ _ _ _ _ _ w
  rw [if_neg d1] at h
  by_cases d2 : a0_0 = 2
  · rw [if_pos d2, Option.bind_eq_some_iff] at h; obtain ⟨⟨t, b⟩, hf, h⟩ := h; obtain ⟨rfl, rfl⟩ := inj h; subst d2
    exact refStep2 _ _ _ _ _ _ _ w k t b hr2 hc2 hf
  rw [if_neg d2] at h
  by_cases d3 : a0_0 = 3
  · rw [if_pos d3, Option.bind_eq_some_iff] at h; obtain ⟨⟨t, b⟩, hf, h⟩ := h; obtain ⟨rfl, rfl⟩ := inj h; subst d3
    exact refStep3 _ _ _ _ _ _ _ w k t b hr2 hc2 hf
  rw [if_neg d3] at h
  by_cases d4 : a0_0 = 4
  · rw [if_pos d4] at h; obtain ⟨rfl, rfl⟩ := inj h; subst d4
    exact refStep4 _ _ _ _ _ _ _ w
  rw [if_neg d4] at h
  have one : ∀ {α : Type} {x : Option α} {y : α}, (if 0 < (l1.length : Int) then x else none) = some y → 1 ≤ l1.length ∧ x = some y := fun h => by
    by_cases c : 0 < (l1.length : Int)
    · rw [if_pos c] at h; exact ⟨by omega, h⟩
    · rw [if_neg c] at h; cases h
  have two : ∀ {α : Type} {x : Option α} {y : α}, (if 1 < (l1.length : Int) then x else none) = some y → 2 ≤ l1.length ∧ x = some y := fun h => by
    by_cases c : 1 < (l1.length : Int)
    · rw [if_pos c] at h; exact ⟨by omega, h⟩
    · rw [if_neg c] at h; cases h
  by_cases d6 : a0_0 = 6
  · rw [if_pos d6] at h; obtain ⟨n1, h⟩ := one h; obtain ⟨rfl, rfl⟩ := inj h; subst d6
    obtain ⟨g, o, sp, rfl, z0, z1, _⟩ := at_part hr1 n1
    exact refStep6 _ _ _ _ _ w g o _ sp n1 _ (rd_T59 l1 0) z0 z1
  rw [if_neg d6] at h
  by_cases d7 : a0_0 = 7
  · rw [if_pos d7] at h; obtain ⟨n1, h⟩ := one h; obtain ⟨n2, h⟩ := two h; obtain ⟨rfl, rfl⟩ := inj h; subst d7
    obtain ⟨g, o, sp, rfl, z0, z1, z⟩ := at_part hr1 n1
    exact refStep7 _ _ _ _ _ w g o _ sp n2 _ _ z0 z1 (z n2).1 (z n2).2
  rw [if_neg d7] at h
  by_cases d8 : a0_0 = 8
  · rw [if_pos d8] at h; obtain ⟨n1, h⟩ := one h; obtain ⟨n2, h⟩ := two h; obtain ⟨rfl, rfl⟩ := inj h; subst d8
    obtain ⟨g, o, sp, rfl, z0, z1, z⟩ := at_part hr1 n1
    exact refStep8 _ _ _ _ _ w g o _ sp n2 _ _ z0 z1 (z n2).1 (z n2).2
  rw [if_neg d8] at h
  by_cases d9 : a0_0 = 9
  · rw [if_pos d9] at h; obtain ⟨n1, h⟩ := one h; obtain ⟨n2, h⟩ := two h; rw [Option.bind_eq_some_iff] at h; obtain ⟨t, hf, h⟩ := h; obtain ⟨rfl, rfl⟩ := inj h; subst d9
    obtain ⟨g, o, sp, rfl, z0, z1, z⟩ := at_part hr1 n1
    exact refStep9 _ _ _ _ _ w g o _ sp n2 _ _ z0 z1 (z n2).1 (z n2).2 t hf
  rw [if_neg d9] at h
  by_cases d10 : a0_0 = 10
  · rw [if_pos d10] at h; obtain ⟨n1, h⟩ := one h; obtain ⟨n2, h⟩ := two h; rw [Option.bind_eq_some_iff] at h; obtain ⟨t, hf, h⟩ := h; obtain ⟨rfl, rfl⟩ := inj h; subst d10
    obtain ⟨g, o, sp, rfl, z0, z1, z⟩ := at_part hr1 n1
    exact refStep10 _ _ _ _ _ w g o _ sp n2 _ _ z0 z1 (z n2).1 (z n2).2 t hf
  rw [if_neg d10] at h
  by_cases d11 : a0_0 = 11
  · rw [if_pos d11] at h; obtain ⟨n1, h⟩ := one h; obtain ⟨rfl, rfl⟩ := inj h; subst d11
    obtain ⟨g, o, sp, rfl, z0, z1, _⟩ := at_part hr1 n1
    exact refStep11 _ _ _ _ _ w g o _ sp n1 _ (rd_T59 l1 0) z0 z1
  rw [if_neg d11] at h
  by_cases d12 : a0_0 = 12
  · rw [if_pos d12] at h; obtain ⟨n1, h⟩ := one h; subst d12
    obtain ⟨g, o, sp, rfl, z0, z1, z⟩ := at_part hr1 n1
    cases hy : (rd_T59 l1 0).f1 with
    | false =>
      rw [hy, if_neg (by decide)] at h; obtain ⟨rfl, rfl⟩ := inj h
      exact refStep12f _ _ _ _ _ w g o _ sp n1 _ (rd_T59 l1 0) z0 z1 hy
    | true =>
      rw [hy, if_pos rfl] at h; obtain ⟨n2, h⟩ := two h; obtain ⟨rfl, rfl⟩ := inj h
      exact refStep12t _ _ _ _ _ w g o _ sp n2 _ _ z0 z1 (z n2).1 (z n2).2 hy
  rw [if_neg d12] at h
  by_cases d13 : a0_0 = 13
  · rw [if_pos d13] at h; obtain ⟨n1, h⟩ := one h; subst d13
    obtain ⟨g, o, sp, rfl, z0, z1, z⟩ := at_part hr1 n1
    cases hy : (rd_T59 l1 0).f1 with
    | true =>
      rw [hy, if_pos rfl] at h; obtain ⟨rfl, rfl⟩ := inj h
      exact refStep13t _ _ _ _ _ w g o _ sp n1 _ (rd_T59 l1 0) z0 z1 hy
    | false =>
      rw [hy, if_neg (by decide)] at h; obtain ⟨n2, h⟩ := two h; obtain ⟨rfl, rfl⟩ := inj h
      exact refStep13f _ _ _ _ _ w g o _ sp n2 _ _ z0 z1 (z n2).1 (z n2).2 hy
  rw [if_neg d13] at h; obtain ⟨rfl, rfl⟩ := inj h
  exact refStepE _ _ _ _ _ _ _ w a0_0 (by simpa using d1) (by simpa using d2) (by simpa using d3) (by simpa using d4) (by simpa using d6) (by simpa using d7) (by simpa using d8) (by simpa using d9) (by simpa using d10) (by simpa using d11) (by simpa using d12) (by simpa using d13)
end Go.Proofs.Ytinhlaiogkmkfaa.PA
end
