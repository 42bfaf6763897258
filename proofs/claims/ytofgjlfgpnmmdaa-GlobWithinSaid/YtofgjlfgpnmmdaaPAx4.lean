-- Printed by a program of this session over the kit's print, with contracts of this session's own. Not trusted: Lean checks it.
import Derived.Test.YtofgjlfgpnmmdaaPAx0
import Derived.Test.YtofgjlfgpnmmdaaPAx1
namespace Go.Proofs.Ytofgjlfgpnmmdaa.PA
open Go.RowKit Go.Proofs.YtofgjlfgpnmmdaaW.PrintWords Go.Proofs.YtofgjlfgpnmmdaaW.PrintLast Go.Proofs.YtofgjlfgpnmmdaaW.PrintMore
attribute [local go_sem] max2_int min2_int max_two min_two max_three min_three max_four min_four   -- for this text's walks alone
set_option linter.unusedVariables false
set_option linter.unusedSimpArgs false

/-! ### shuttlelaw6_GlobWithin: function 10 -/
def shuttlelaw6_GlobWithin.j0 : Nat → ByteArray → ByteArray → ByteArray → ByteArray → Bool → Bool → Option (Bool)
  | 0, _, _, _, _, _, _ => none
  | k + 1, x0, x1, x2, x3, x9, x44 => if x44 = true then ((shuttlelaw6_awake.f).bind fun t195 => (some t195)) else (if 2 + x0.size ≤ 9223372036854775807 then (if ((⟨#[42, 42]⟩ : ByteArray) ++ x0).size + 2 ≤ 9223372036854775807 then (if x2.size + x1.size ≤ 9223372036854775807 then (if (x2 ++ x1).size + x3.size ≤ 9223372036854775807 then ((glob_Match.f (((⟨#[42, 42]⟩ : ByteArray) ++ x0) ++ (⟨#[42, 42]⟩ : ByteArray)) ((x2 ++ x1) ++ x3)).bind fun bt196 => ((glob_Match.f (((⟨#[42, 42]⟩ : ByteArray) ++ x0) ++ (⟨#[42, 42]⟩ : ByteArray)) x1).bind fun bt198 => (if bt196.2 = 0 then (if bt198.2 = 0 then (if x9 = true then (if bt196.1 = true then (if bt198.1 = true then ((shuttlelaw6_awake.f).bind fun t200 => (some t200)) else (some false)) else (some false)) else ((shuttlelaw6_awake.f).bind fun t201 => (some t201))) else (some false)) else (some false)))) else (none)) else (none)) else (none)) else (none))
def shuttlelaw6_GlobWithin.f (k : Nat) (a0 : ByteArray) (a1 : ByteArray) (a2 : ByteArray) (a3 : ByteArray) : Option (Bool) := (glob_Match.f a0 a1).bind fun bt193 => (if bt193.2 = 0 then (if a0.toList = ([] : List UInt8) then (shuttlelaw6_GlobWithin.j0 k a0 a1 a2 a3 bt193.1 true) else (if 0 < (a0.size : Int) then (if (bt a0 0) = 42 then (shuttlelaw6_GlobWithin.j0 k a0 a1 a2 a3 bt193.1 true) else (if 0 ≤ (wrap64 ((a0.size : Int) - 1)) then (if (wrap64 ((a0.size : Int) - 1)) < (a0.size : Int) then (if (bt a0 (wrap64 ((a0.size : Int) - 1))) = 42 then (shuttlelaw6_GlobWithin.j0 k a0 a1 a2 a3 bt193.1 true) else (shuttlelaw6_GlobWithin.j0 k a0 a1 a2 a3 bt193.1 (decide ((a0.size : Int) > 252)))) else (none)) else (none))) else (none))) else (shuttlelaw6_GlobWithin.j0 k a0 a1 a2 a3 bt193.1 true))
theorem shuttlelaw6_GlobWithin.mono_l : ∀ k, (∀ y0 y1 y2 y3 y4 y5, LeO (shuttlelaw6_GlobWithin.j0 k y0 y1 y2 y3 y4 y5) (shuttlelaw6_GlobWithin.j0 (k + 1) y0 y1 y2 y3 y4 y5))
  | 0 => fun _ _ _ _ _ _ r h => by simp [shuttlelaw6_GlobWithin.j0] at h
  | k + 1 => by
    have ih0 := shuttlelaw6_GlobWithin.mono_l k
    · intro y0 y1 y2 y3 y4 y5
      unfold shuttlelaw6_GlobWithin.j0
      repeat' first
      | (with_reducible exact ih0 _ _ _ _ _ _)
      | (with_reducible exact LeO.refl _)
      | (with_reducible exact LeO.none _)
      | (with_reducible refine LeO.ite ?_ ?_)
      | (with_reducible refine LeO.bind ?_ (fun _ => ?_))
      | exact ih0 _ _ _ _ _ _
      | exact LeO.none _
      | refine LeO.ite ?_ ?_
      | refine LeO.bind ?_ (fun _ => ?_)
theorem shuttlelaw6_GlobWithin.mono : ∀ a0 a1 a2 a3 k, LeO (shuttlelaw6_GlobWithin.f k a0 a1 a2 a3) (shuttlelaw6_GlobWithin.f (k + 1) a0 a1 a2 a3) := by
  intro a0 a1 a2 a3 k
  have ih0 := shuttlelaw6_GlobWithin.mono_l k
  unfold shuttlelaw6_GlobWithin.f
  repeat' first
      | (with_reducible exact ih0 _ _ _ _ _ _)
      | (with_reducible exact LeO.refl _)
      | (with_reducible exact LeO.none _)
      | (with_reducible refine LeO.ite ?_ ?_)
      | (with_reducible refine LeO.bind ?_ (fun _ => ?_))
      | exact ih0 _ _ _ _ _ _
      | exact LeO.none _
      | refine LeO.ite ?_ ?_
      | refine LeO.bind ?_ (fun _ => ?_)
set_option maxHeartbeats 8000000 in
set_option maxRecDepth 100000 in
theorem shuttlelaw6_GlobWithin.calls (k : Nat) (a0 : ByteArray) (a1 : ByteArray) (a2 : ByteArray) (a3 : ByteArray) (r : Bool) (w : World) (h : shuttlelaw6_GlobWithin.f k a0 a1 a2 a3 = some r) :
    Calls Try.prog 10 #[.string a0, .string a1, .string a2, .string a3] w fun e w' => e = .returned (.bool r) ∧ Below w.heap.size w w' := by
  have HB := Aside0.mk (Below.refl w.heap.size w)
  have H : ((glob_Match.f a0 a1).bind fun bt193 => (if bt193.2 = 0 then (if a0.toList = ([] : List UInt8) then (shuttlelaw6_GlobWithin.j0 k a0 a1 a2 a3 bt193.1 true) else (if 0 < (a0.size : Int) then (if (bt a0 0) = 42 then (shuttlelaw6_GlobWithin.j0 k a0 a1 a2 a3 bt193.1 true) else (if 0 ≤ (wrap64 ((a0.size : Int) - 1)) then (if (wrap64 ((a0.size : Int) - 1)) < (a0.size : Int) then (if (bt a0 (wrap64 ((a0.size : Int) - 1))) = 42 then (shuttlelaw6_GlobWithin.j0 k a0 a1 a2 a3 bt193.1 true) else (shuttlelaw6_GlobWithin.j0 k a0 a1 a2 a3 bt193.1 (decide ((a0.size : Int) > 252)))) else (none)) else (none))) else (none))) else (shuttlelaw6_GlobWithin.j0 k a0 a1 a2 a3 bt193.1 true))) = some r := h
  clear h
  replace H := Option.bind_eq_some_iff.mp H
  obtain ⟨⟨t193, t194⟩, A50, H⟩ := H
  replace H : (if t194 = 0 then (if a0.toList = ([] : List UInt8) then (shuttlelaw6_GlobWithin.j0 k a0 a1 a2 a3 t193 true) else (if 0 < (a0.size : Int) then (if (bt a0 0) = 42 then (shuttlelaw6_GlobWithin.j0 k a0 a1 a2 a3 t193 true) else (if 0 ≤ (wrap64 ((a0.size : Int) - 1)) then (if (wrap64 ((a0.size : Int) - 1)) < (a0.size : Int) then (if (bt a0 (wrap64 ((a0.size : Int) - 1))) = 42 then (shuttlelaw6_GlobWithin.j0 k a0 a1 a2 a3 t193 true) else (shuttlelaw6_GlobWithin.j0 k a0 a1 a2 a3 t193 (decide ((a0.size : Int) > 252)))) else (none)) else (none))) else (none))) else (shuttlelaw6_GlobWithin.j0 k a0 a1 a2 a3 t193 true)) = some r := H
  have A5 := Aside0.mk A50
  clear A50
  have HC6 := Aside0.mk H
  clear H
  go_enter Try.func10, Try.ntmps10
  go_upto_region 2 with (first | ((with_reducible refine gate_callee (f := 15) rfl ?_); refine goesL_ (some 18) rfl rfl Try.func15 (by kernel_rfl) rfl #[.string a0, .string a1] rfl (by (try simp only [List.map_toArray, List.map_cons, List.map_nil]); first | done | rfl | (simp only [List.length_drop, List.length_take]; rfl)) ?_; (with_reducible refine (glob_Match.calls a0 a1 t193 t194 _ A5.out).mono ?_); rintro e w7 ⟨rfl, hb⟩; refine ⟨_, rfl, ?_⟩; have n0_ := Aside0.mk (below_step (by repeat (first | (with_reducible first | exact HB.out | apply below_alloc | apply pw_below_drewN | apply below_drew1) | exact HB.out)) hb); clear HB; have HB := n0_; clear n0_; (try clear hb); (try clear hb2); (try clear hk); (try clear hi)))
  (try simp only [Act.put, List.setIfInBounds_toArray, List.set_cons_zero, List.set_cons_succ])
  go_cut [44] (fun v44 wc => ∃ (kq : Nat) (x44_5 : Bool), v44 = .bool x44_5 ∧ Aside0 (shuttlelaw6_GlobWithin.j0 kq a0 a1 a2 a3 t193 x44_5 = some r) ∧ Aside0 (kq ≤ k) ∧ Aside0 (Below w.heap.size w wc))
  case first =>
    have H := HC6.out
    clear HC6
    by_cases c8 : t194 = 0
    · rw [if_pos c8] at H
      have c8b0 : (t194 == 0) = true := beq_iff_eq.mpr c8
      have c8b1 : (t194 != 0) = false := bne_eq_false_iff_eq.mpr c8
      clear c8
      (first | rw [c8b0] | (simp only [i64_w, i32_w]; rw [c8b0]) | skip)
      by_cases c9 : a0.toList = ([] : List UInt8)
      · rw [if_pos c9] at H
        have c9b0 : (a0.toList == ([] : List UInt8)) = true := beq_iff_eq.mpr c9
        (try (have c9y : a0.toList.isEmpty = true := by simpa using c9b0))
        have c9b1 : (a0.toList != ([] : List UInt8)) = false := bne_eq_false_iff_eq.mpr c9
        clear c9
        have H' := Aside0.mk H
        clear H
        go_wp2
        go_meet
        case rel => exact ⟨_, (true), (by first | rfl | (simp; done) | (simp [*]; done)), H', ⟨by first | omega | exact Nat.le_refl _⟩, ⟨by repeat (first | (with_reducible first | exact HB.out | apply below_alloc | apply pw_below_drewN | apply below_drew1) | exact HB.out)⟩⟩
      · rw [if_neg c9] at H
        have c9b0 : (a0.toList == ([] : List UInt8)) = false := beq_eq_false_iff_ne.mpr c9
        (try (have c9y : a0.toList.isEmpty = false := by simpa using c9b0))
        have c9b1 : (a0.toList != ([] : List UInt8)) = true := bne_iff_ne.mpr c9
        by_cases c10 : 0 < (a0.size : Int)
        · rw [if_pos c10] at H
          have c10b0 : decide (0 < (a0.size : Int)) = true := decide_eq_true c10
          have c10b1 : decide (0 < a0.size) = true := decide_eq_true (by omega)
          clear c10
          by_cases c12 : (bt a0 0) = 42
          · rw [if_pos c12] at H
            have c12b0 : ((bt a0 0) == 42) = true := beq_iff_eq.mpr c12
            have c12b1 : ((bt a0 0) != 42) = false := bne_eq_false_iff_eq.mpr c12
            clear c12
            have H' := Aside0.mk H
            clear H
            have p11 : 0 ≤ (0 : Int) := (by omega)
            have q11 : 0 < a0.size := (by have : (0 : Int) < (a0.size : Int) := of_decide_eq_true (by first | (with_reducible assumption) | assumption); omega)
            have hx11 : ∀ h : 0 < a0.size, ((a0[0]'h).toNat : Int) = bt a0 0 := bt_at a0 0
            clear p11
            have qi11 : (0 < (a0.size : Int)) = True := eq_true (of_decide_eq_true (by first | (with_reducible assumption) | assumption))
            replace q11 := eq_true q11
            go_wp2
            go_meet
            case rel => exact ⟨_, (true), (by first | rfl | (simp; done) | (simp [*]; done)), H', ⟨by first | omega | exact Nat.le_refl _⟩, ⟨by repeat (first | (with_reducible first | exact HB.out | apply below_alloc | apply pw_below_drewN | apply below_drew1) | exact HB.out)⟩⟩
          · rw [if_neg c12] at H
            have c12b0 : ((bt a0 0) == 42) = false := beq_eq_false_iff_ne.mpr c12
            have c12b1 : ((bt a0 0) != 42) = true := bne_iff_ne.mpr c12
            obtain ⟨ji13, hji13⟩ : ∃ j_ : Int, (wrap64 ((a0.size : Int) - 1)) = j_ := ⟨_, rfl⟩
            replace H : (if 0 ≤ (ji13) then (if (ji13) < (a0.size : Int) then (if (bt a0 (ji13)) = 42 then (shuttlelaw6_GlobWithin.j0 k a0 a1 a2 a3 t193 true) else (shuttlelaw6_GlobWithin.j0 k a0 a1 a2 a3 t193 (decide ((a0.size : Int) > 252)))) else (none)) else (none)) = some r := by first | (rw [hji13] at H; exact H) | (simp only [hji13] at H ⊢; exact H)
            have hji13w : (IntKind.i64.wrap ((a0.size : Int) - 1)) = ji13 := (i64_w _).trans hji13
            by_cases c14 : 0 ≤ (ji13)
            · rw [if_pos c14] at H
              have c14b0 : decide (0 ≤ (ji13)) = true := decide_eq_true c14
              clear c14
              by_cases c15 : (ji13) < (a0.size : Int)
              · rw [if_pos c15] at H
                have c15b0 : decide ((ji13) < (a0.size : Int)) = true := decide_eq_true c15
                clear c15
                by_cases c17 : (bt a0 (ji13)) = 42
                · rw [if_pos c17] at H
                  have c17b0 : ((bt a0 (ji13)) == 42) = true := beq_iff_eq.mpr c17
                  have c17b1 : ((bt a0 (ji13)) != 42) = false := bne_eq_false_iff_eq.mpr c17
                  clear c17
                  have H' := Aside0.mk H
                  clear H
                  have p11 : 0 ≤ (0 : Int) := (by omega)
                  have q11 : 0 < a0.size := (by have : (0 : Int) < (a0.size : Int) := of_decide_eq_true (by first | (with_reducible assumption) | assumption); omega)
                  have hx11 : ∀ h : 0 < a0.size, ((a0[0]'h).toNat : Int) = bt a0 0 := bt_at a0 0
                  clear p11
                  have qi11 : (0 < (a0.size : Int)) = True := eq_true (of_decide_eq_true (by first | (with_reducible assumption) | assumption))
                  replace q11 := eq_true q11
                  have p16 : 0 ≤ ((ji13) : Int) := of_decide_eq_true (by first | (with_reducible assumption) | assumption)
                  have q16 : (ji13) < (a0.size : Int) := of_decide_eq_true (by first | (with_reducible assumption) | assumption)
                  have hx16 := bt_at a0 (ji13)
                  replace p16 := eq_true p16
                  replace q16 := eq_true q16
                  go_wp2
                  go_meet
                  case rel => exact ⟨_, (true), (by first | rfl | (simp; done) | (simp [*]; done)), H', ⟨by first | omega | exact Nat.le_refl _⟩, ⟨by repeat (first | (with_reducible first | exact HB.out | apply below_alloc | apply pw_below_drewN | apply below_drew1) | exact HB.out)⟩⟩
                · rw [if_neg c17] at H
                  have c17b0 : ((bt a0 (ji13)) == 42) = false := beq_eq_false_iff_ne.mpr c17
                  have c17b1 : ((bt a0 (ji13)) != 42) = true := bne_iff_ne.mpr c17
                  have H' := Aside0.mk H
                  clear H
                  have p11 : 0 ≤ (0 : Int) := (by omega)
                  have q11 : 0 < a0.size := (by have : (0 : Int) < (a0.size : Int) := of_decide_eq_true (by first | (with_reducible assumption) | assumption); omega)
                  have hx11 : ∀ h : 0 < a0.size, ((a0[0]'h).toNat : Int) = bt a0 0 := bt_at a0 0
                  clear p11
                  have qi11 : (0 < (a0.size : Int)) = True := eq_true (of_decide_eq_true (by first | (with_reducible assumption) | assumption))
                  replace q11 := eq_true q11
                  have p16 : 0 ≤ ((ji13) : Int) := of_decide_eq_true (by first | (with_reducible assumption) | assumption)
                  have q16 : (ji13) < (a0.size : Int) := of_decide_eq_true (by first | (with_reducible assumption) | assumption)
                  have hx16 := bt_at a0 (ji13)
                  replace p16 := eq_true p16
                  replace q16 := eq_true q16
                  go_wp2
                  go_meet
                  case rel => exact ⟨_, (decide ((a0.size : Int) > 252)), (by first | rfl | (simp; done) | (simp [*]; done)), H', ⟨by first | omega | exact Nat.le_refl _⟩, ⟨by repeat (first | (with_reducible first | exact HB.out | apply below_alloc | apply pw_below_drewN | apply below_drew1) | exact HB.out)⟩⟩
              · rw [if_neg c15] at H
                exact absurd H (by simp)
            · rw [if_neg c14] at H
              exact absurd H (by simp)
        · rw [if_neg c10] at H
          exact absurd H (by simp)
    · rw [if_neg c8] at H
      have c8b0 : (t194 == 0) = false := beq_eq_false_iff_ne.mpr c8
      have c8b1 : (t194 != 0) = true := bne_iff_ne.mpr c8
      (first | rw [c8b0] | (simp only [i64_w, i32_w]; rw [c8b0]) | skip)
      have H' := Aside0.mk H
      clear H
      go_wp2
      go_meet
      case rel => exact ⟨_, (true), (by first | rfl | (simp; done) | (simp [*]; done)), H', ⟨by first | omega | exact Nat.le_refl _⟩, ⟨by repeat (first | (with_reducible first | exact HB.out | apply below_alloc | apply pw_below_drewN | apply below_drew1) | exact HB.out)⟩⟩
  case rest =>
    clear HC6
    try clear c1
    try clear p1
    try clear q1
    try clear hx1
    try clear qi1
    try clear p2
    try clear p6
    try clear c8
    try clear c8b0
    try clear c8b1
    try clear c9
    try clear c9b0
    try clear c9b1
    try clear c10
    try clear c10b0
    try clear c10b1
    try clear p11
    try clear q11
    try clear hx11
    try clear qi11
    try clear c12
    try clear c12b0
    try clear c12b1
    try clear c14
    try clear c14b0
    try clear c15
    try clear c15b0
    try clear p16
    try clear q16
    try clear hx16
    try clear c17
    try clear c17b0
    try clear c17b1
    try clear p11
    try clear p16
    try clear q11
    try clear q16
    obtain ⟨kq, x44_5, rfl, HA, HJ5, HB⟩ := hcut
    cases kq with
    | zero => exact absurd HA.out (by simp [shuttlelaw6_GlobWithin.j0])
    | succ kj5 =>
      have H := HA.out
      clear HA
      simp only [shuttlelaw6_GlobWithin.j0] at H
      by_cases c18 : x44_5 = true
      · subst c18
        have H1 : ((shuttlelaw6_awake.f).bind fun t195 => (some t195)) = some r := by rw [if_pos rfl] at H; exact H
        clear H
        have H := H1
        clear H1
        replace H := Option.bind_eq_some_iff.mp H
        obtain ⟨t195, A190, H⟩ := H
        replace H : (some t195) = some r := H
        have A19 := Aside0.mk A190
        clear A190
        obtain rfl := Option.some.inj H
        go_wp2_with (first | ((with_reducible refine gate_callee (f := 13) rfl ?_); refine goesL_ (some 45) rfl rfl Try.func13 (by kernel_rfl) rfl #[] rfl (by (try simp only [List.map_toArray, List.map_cons, List.map_nil]); first | done | rfl | (simp only [List.length_drop, List.length_take]; rfl)) ?_; (with_reducible refine (shuttlelaw6_awake.calls  t195 _ A19.out).mono ?_); rintro e w20 ⟨rfl, hb⟩; refine ⟨_, rfl, ?_⟩; have n0_ := Aside0.mk (below_step (by repeat (first | (with_reducible first | exact HB.out | apply below_alloc | apply pw_below_drewN | apply below_drew1) | exact HB.out)) hb); clear HB; have HB := n0_; clear n0_; (try clear hb); (try clear hb2); (try clear hk); (try clear hi)))
        go_ret
        exact ⟨by first | rfl | (simp [errW_none, errW_some] <;> rfl) | (simp [*, errW_none, errW_some] <;> rfl), by repeat (first | (with_reducible first | exact HB.out | apply below_alloc | apply pw_below_drewN | apply below_drew1) | exact HB.out)⟩
      · replace c18 := Bool.eq_false_iff.mpr c18
        subst c18
        have H1 : (if 2 + a0.size ≤ 9223372036854775807 then (if ((⟨#[42, 42]⟩ : ByteArray) ++ a0).size + 2 ≤ 9223372036854775807 then (if a2.size + a1.size ≤ 9223372036854775807 then (if (a2 ++ a1).size + a3.size ≤ 9223372036854775807 then ((glob_Match.f (((⟨#[42, 42]⟩ : ByteArray) ++ a0) ++ (⟨#[42, 42]⟩ : ByteArray)) ((a2 ++ a1) ++ a3)).bind fun bt196 => ((glob_Match.f (((⟨#[42, 42]⟩ : ByteArray) ++ a0) ++ (⟨#[42, 42]⟩ : ByteArray)) a1).bind fun bt198 => (if bt196.2 = 0 then (if bt198.2 = 0 then (if t193 = true then (if bt196.1 = true then (if bt198.1 = true then ((shuttlelaw6_awake.f).bind fun t200 => (some t200)) else (some false)) else (some false)) else ((shuttlelaw6_awake.f).bind fun t201 => (some t201))) else (some false)) else (some false)))) else (none)) else (none)) else (none)) else (none)) = some r := by rw [if_neg (show ¬ (false = true) by decide)] at H; exact H
        clear H
        have H := H1
        clear H1
        by_cases c21 : 2 + a0.size ≤ 9223372036854775807
        · rw [if_pos c21] at H
          have c21b0 := eq_true c21
          have c21b1 : decide (2 + a0.size ≤ 9223372036854775807) = true := decide_eq_true c21
          try have c21b2 : (9223372036854775807 < 2 + a0.size) = False := eq_false (Nat.not_lt.2 c21)
          (try (have c21y := c21; simp only [ByteArray.size_append] at c21y))
          by_cases c22 : ((⟨#[42, 42]⟩ : ByteArray) ++ a0).size + 2 ≤ 9223372036854775807
          · rw [if_pos c22] at H
            have c22b0 := eq_true c22
            have c22b1 : decide (((⟨#[42, 42]⟩ : ByteArray) ++ a0).size + 2 ≤ 9223372036854775807) = true := decide_eq_true c22
            try have c22b2 : (9223372036854775807 < ((⟨#[42, 42]⟩ : ByteArray) ++ a0).size + 2) = False := eq_false (Nat.not_lt.2 c22)
            (try (have c22y := c22; simp only [ByteArray.size_append, show (⟨#[42, 42]⟩ : ByteArray).size = 2 from rfl] at c22y))
            by_cases c23 : a2.size + a1.size ≤ 9223372036854775807
            · rw [if_pos c23] at H
              have c23b0 := eq_true c23
              have c23b1 : decide (a2.size + a1.size ≤ 9223372036854775807) = true := decide_eq_true c23
              try have c23b2 : (9223372036854775807 < a2.size + a1.size) = False := eq_false (Nat.not_lt.2 c23)
              (try (have c23y := c23; simp only [ByteArray.size_append] at c23y))
              by_cases c24 : (a2 ++ a1).size + a3.size ≤ 9223372036854775807
              · rw [if_pos c24] at H
                have c24b0 := eq_true c24
                have c24b1 : decide ((a2 ++ a1).size + a3.size ≤ 9223372036854775807) = true := decide_eq_true c24
                try have c24b2 : (9223372036854775807 < (a2 ++ a1).size + a3.size) = False := eq_false (Nat.not_lt.2 c24)
                (try (have c24y := c24; simp only [ByteArray.size_append] at c24y))
                replace H := Option.bind_eq_some_iff.mp H
                obtain ⟨⟨t196, t197⟩, A250, H⟩ := H
                replace H : ((glob_Match.f (((⟨#[42, 42]⟩ : ByteArray) ++ a0) ++ (⟨#[42, 42]⟩ : ByteArray)) a1).bind fun bt198 => (if t197 = 0 then (if bt198.2 = 0 then (if t193 = true then (if t196 = true then (if bt198.1 = true then ((shuttlelaw6_awake.f).bind fun t200 => (some t200)) else (some false)) else (some false)) else ((shuttlelaw6_awake.f).bind fun t201 => (some t201))) else (some false)) else (some false))) = some r := H
                have A25 := Aside0.mk A250
                clear A250
                replace H := Option.bind_eq_some_iff.mp H
                obtain ⟨⟨t198, t199⟩, A260, H⟩ := H
                replace H : (if t197 = 0 then (if t199 = 0 then (if t193 = true then (if t196 = true then (if t198 = true then ((shuttlelaw6_awake.f).bind fun t200 => (some t200)) else (some false)) else (some false)) else ((shuttlelaw6_awake.f).bind fun t201 => (some t201))) else (some false)) else (some false)) = some r := H
                have A26 := Aside0.mk A260
                clear A260
                by_cases c27 : t197 = 0
                · rw [if_pos c27] at H
                  have c27b0 : (t197 == 0) = true := beq_iff_eq.mpr c27
                  have c27b1 : (t197 != 0) = false := bne_eq_false_iff_eq.mpr c27
                  clear c27
                  by_cases c28 : t199 = 0
                  · rw [if_pos c28] at H
                    have c28b0 : (t199 == 0) = true := beq_iff_eq.mpr c28
                    have c28b1 : (t199 != 0) = false := bne_eq_false_iff_eq.mpr c28
                    clear c28
                    by_cases c29 : t193 = true
                    · subst c29
                      have H1 : (if t196 = true then (if t198 = true then ((shuttlelaw6_awake.f).bind fun t200 => (some t200)) else (some false)) else (some false)) = some r := by rw [if_pos rfl] at H; exact H
                      clear H
                      have H := H1
                      clear H1
                      by_cases c30 : t196 = true
                      · subst c30
                        have H1 : (if t198 = true then ((shuttlelaw6_awake.f).bind fun t200 => (some t200)) else (some false)) = some r := by rw [if_pos rfl] at H; exact H
                        clear H
                        have H := H1
                        clear H1
                        by_cases c31 : t198 = true
                        · subst c31
                          have H1 : ((shuttlelaw6_awake.f).bind fun t200 => (some t200)) = some r := by rw [if_pos rfl] at H; exact H
                          clear H
                          have H := H1
                          clear H1
                          replace H := Option.bind_eq_some_iff.mp H
                          obtain ⟨t200, A320, H⟩ := H
                          replace H : (some t200) = some r := H
                          have A32 := Aside0.mk A320
                          clear A320
                          obtain rfl := Option.some.inj H
                          go_wp2_with (first | ((with_reducible refine gate_callee (f := 15) rfl ?_); refine goesL_ (some 55) rfl rfl Try.func15 (by kernel_rfl) rfl #[.string (((⟨#[42, 42]⟩ : ByteArray) ++ a0) ++ (⟨#[42, 42]⟩ : ByteArray)), .string ((a2 ++ a1) ++ a3)] rfl (by (try simp only [List.map_toArray, List.map_cons, List.map_nil]); first | done | rfl | (simp only [List.length_drop, List.length_take]; rfl)) ?_; (with_reducible refine (glob_Match.calls (((⟨#[42, 42]⟩ : ByteArray) ++ a0) ++ (⟨#[42, 42]⟩ : ByteArray)) ((a2 ++ a1) ++ a3) true t197 _ A25.out).mono ?_); rintro e w33 ⟨rfl, hb⟩; refine ⟨_, rfl, ?_⟩; have n0_ := Aside0.mk (below_step (by repeat (first | (with_reducible first | exact HB.out | apply below_alloc | apply pw_below_drewN | apply below_drew1) | exact HB.out)) hb); clear HB; have HB := n0_; clear n0_; (try clear hb); (try clear hb2); (try clear hk); (try clear hi)) | ((with_reducible refine gate_callee (f := 15) rfl ?_); refine goesL_ (some 63) rfl rfl Try.func15 (by kernel_rfl) rfl #[.string (((⟨#[42, 42]⟩ : ByteArray) ++ a0) ++ (⟨#[42, 42]⟩ : ByteArray)), .string a1] rfl (by (try simp only [List.map_toArray, List.map_cons, List.map_nil]); first | done | rfl | (simp only [List.length_drop, List.length_take]; rfl)) ?_; (with_reducible refine (glob_Match.calls (((⟨#[42, 42]⟩ : ByteArray) ++ a0) ++ (⟨#[42, 42]⟩ : ByteArray)) a1 true t199 _ A26.out).mono ?_); rintro e w34 ⟨rfl, hb⟩; refine ⟨_, rfl, ?_⟩; have n0_ := Aside0.mk (below_step (by repeat (first | (with_reducible first | exact HB.out | apply below_alloc | apply pw_below_drewN | apply below_drew1) | exact HB.out)) hb); clear HB; have HB := n0_; clear n0_; (try clear hb); (try clear hb2); (try clear hk); (try clear hi)) | (go_at_call 13; (with_reducible refine (shuttlelaw6_awake.calls  t200 _ A32.out).mono ?_); rintro e w35 ⟨rfl, hb⟩; have n0_ := Aside0.mk (below_step (by repeat (first | (with_reducible first | exact HB.out | apply below_alloc | apply pw_below_drewN | apply below_drew1) | exact HB.out)) hb); clear HB; have HB := n0_; clear n0_; (try clear hb); (try clear hb2); (try clear hk); (try clear hi)))
                          go_ret
                          exact ⟨by first | rfl | (simp [errW_none, errW_some] <;> rfl) | (simp [*, errW_none, errW_some] <;> rfl), by repeat (first | (with_reducible first | exact HB.out | apply below_alloc | apply pw_below_drewN | apply below_drew1) | exact HB.out)⟩
                        · replace c31 := Bool.eq_false_iff.mpr c31
                          subst c31
                          have H1 : (some false) = some r := by rw [if_neg (show ¬ (false = true) by decide)] at H; exact H
                          clear H
                          have H := H1
                          clear H1
                          obtain rfl := Option.some.inj H
                          go_wp2_with (first | ((with_reducible refine gate_callee (f := 15) rfl ?_); refine goesL_ (some 55) rfl rfl Try.func15 (by kernel_rfl) rfl #[.string (((⟨#[42, 42]⟩ : ByteArray) ++ a0) ++ (⟨#[42, 42]⟩ : ByteArray)), .string ((a2 ++ a1) ++ a3)] rfl (by (try simp only [List.map_toArray, List.map_cons, List.map_nil]); first | done | rfl | (simp only [List.length_drop, List.length_take]; rfl)) ?_; (with_reducible refine (glob_Match.calls (((⟨#[42, 42]⟩ : ByteArray) ++ a0) ++ (⟨#[42, 42]⟩ : ByteArray)) ((a2 ++ a1) ++ a3) true t197 _ A25.out).mono ?_); rintro e w36 ⟨rfl, hb⟩; refine ⟨_, rfl, ?_⟩; have n0_ := Aside0.mk (below_step (by repeat (first | (with_reducible first | exact HB.out | apply below_alloc | apply pw_below_drewN | apply below_drew1) | exact HB.out)) hb); clear HB; have HB := n0_; clear n0_; (try clear hb); (try clear hb2); (try clear hk); (try clear hi)) | ((with_reducible refine gate_callee (f := 15) rfl ?_); refine goesL_ (some 63) rfl rfl Try.func15 (by kernel_rfl) rfl #[.string (((⟨#[42, 42]⟩ : ByteArray) ++ a0) ++ (⟨#[42, 42]⟩ : ByteArray)), .string a1] rfl (by (try simp only [List.map_toArray, List.map_cons, List.map_nil]); first | done | rfl | (simp only [List.length_drop, List.length_take]; rfl)) ?_; (with_reducible refine (glob_Match.calls (((⟨#[42, 42]⟩ : ByteArray) ++ a0) ++ (⟨#[42, 42]⟩ : ByteArray)) a1 false t199 _ A26.out).mono ?_); rintro e w37 ⟨rfl, hb⟩; refine ⟨_, rfl, ?_⟩; have n0_ := Aside0.mk (below_step (by repeat (first | (with_reducible first | exact HB.out | apply below_alloc | apply pw_below_drewN | apply below_drew1) | exact HB.out)) hb); clear HB; have HB := n0_; clear n0_; (try clear hb); (try clear hb2); (try clear hk); (try clear hi)))
                          go_ret
                          exact ⟨by first | rfl | (simp [errW_none, errW_some] <;> rfl) | (simp [*, errW_none, errW_some] <;> rfl), by repeat (first | (with_reducible first | exact HB.out | apply below_alloc | apply pw_below_drewN | apply below_drew1) | exact HB.out)⟩
                      · replace c30 := Bool.eq_false_iff.mpr c30
                        subst c30
                        have H1 : (some false) = some r := by rw [if_neg (show ¬ (false = true) by decide)] at H; exact H
                        clear H
                        have H := H1
                        clear H1
                        obtain rfl := Option.some.inj H
                        go_wp2_with (first | ((with_reducible refine gate_callee (f := 15) rfl ?_); refine goesL_ (some 55) rfl rfl Try.func15 (by kernel_rfl) rfl #[.string (((⟨#[42, 42]⟩ : ByteArray) ++ a0) ++ (⟨#[42, 42]⟩ : ByteArray)), .string ((a2 ++ a1) ++ a3)] rfl (by (try simp only [List.map_toArray, List.map_cons, List.map_nil]); first | done | rfl | (simp only [List.length_drop, List.length_take]; rfl)) ?_; (with_reducible refine (glob_Match.calls (((⟨#[42, 42]⟩ : ByteArray) ++ a0) ++ (⟨#[42, 42]⟩ : ByteArray)) ((a2 ++ a1) ++ a3) false t197 _ A25.out).mono ?_); rintro e w38 ⟨rfl, hb⟩; refine ⟨_, rfl, ?_⟩; have n0_ := Aside0.mk (below_step (by repeat (first | (with_reducible first | exact HB.out | apply below_alloc | apply pw_below_drewN | apply below_drew1) | exact HB.out)) hb); clear HB; have HB := n0_; clear n0_; (try clear hb); (try clear hb2); (try clear hk); (try clear hi)) | ((with_reducible refine gate_callee (f := 15) rfl ?_); refine goesL_ (some 63) rfl rfl Try.func15 (by kernel_rfl) rfl #[.string (((⟨#[42, 42]⟩ : ByteArray) ++ a0) ++ (⟨#[42, 42]⟩ : ByteArray)), .string a1] rfl (by (try simp only [List.map_toArray, List.map_cons, List.map_nil]); first | done | rfl | (simp only [List.length_drop, List.length_take]; rfl)) ?_; (with_reducible refine (glob_Match.calls (((⟨#[42, 42]⟩ : ByteArray) ++ a0) ++ (⟨#[42, 42]⟩ : ByteArray)) a1 t198 t199 _ A26.out).mono ?_); rintro e w39 ⟨rfl, hb⟩; refine ⟨_, rfl, ?_⟩; have n0_ := Aside0.mk (below_step (by repeat (first | (with_reducible first | exact HB.out | apply below_alloc | apply pw_below_drewN | apply below_drew1) | exact HB.out)) hb); clear HB; have HB := n0_; clear n0_; (try clear hb); (try clear hb2); (try clear hk); (try clear hi)))
                        go_ret
                        exact ⟨by first | rfl | (simp [errW_none, errW_some] <;> rfl) | (simp [*, errW_none, errW_some] <;> rfl), by repeat (first | (with_reducible first | exact HB.out | apply below_alloc | apply pw_below_drewN | apply below_drew1) | exact HB.out)⟩
                    · replace c29 := Bool.eq_false_iff.mpr c29
                      subst c29
                      have H1 : ((shuttlelaw6_awake.f).bind fun t201 => (some t201)) = some r := by rw [if_neg (show ¬ (false = true) by decide)] at H; exact H
                      clear H
                      have H := H1
                      clear H1
                      replace H := Option.bind_eq_some_iff.mp H
                      obtain ⟨t201, A400, H⟩ := H
                      replace H : (some t201) = some r := H
                      have A40 := Aside0.mk A400
                      clear A400
                      obtain rfl := Option.some.inj H
                      go_wp2_with (first | ((with_reducible refine gate_callee (f := 15) rfl ?_); refine goesL_ (some 55) rfl rfl Try.func15 (by kernel_rfl) rfl #[.string (((⟨#[42, 42]⟩ : ByteArray) ++ a0) ++ (⟨#[42, 42]⟩ : ByteArray)), .string ((a2 ++ a1) ++ a3)] rfl (by (try simp only [List.map_toArray, List.map_cons, List.map_nil]); first | done | rfl | (simp only [List.length_drop, List.length_take]; rfl)) ?_; (with_reducible refine (glob_Match.calls (((⟨#[42, 42]⟩ : ByteArray) ++ a0) ++ (⟨#[42, 42]⟩ : ByteArray)) ((a2 ++ a1) ++ a3) t196 t197 _ A25.out).mono ?_); rintro e w41 ⟨rfl, hb⟩; refine ⟨_, rfl, ?_⟩; have n0_ := Aside0.mk (below_step (by repeat (first | (with_reducible first | exact HB.out | apply below_alloc | apply pw_below_drewN | apply below_drew1) | exact HB.out)) hb); clear HB; have HB := n0_; clear n0_; (try clear hb); (try clear hb2); (try clear hk); (try clear hi)) | ((with_reducible refine gate_callee (f := 15) rfl ?_); refine goesL_ (some 63) rfl rfl Try.func15 (by kernel_rfl) rfl #[.string (((⟨#[42, 42]⟩ : ByteArray) ++ a0) ++ (⟨#[42, 42]⟩ : ByteArray)), .string a1] rfl (by (try simp only [List.map_toArray, List.map_cons, List.map_nil]); first | done | rfl | (simp only [List.length_drop, List.length_take]; rfl)) ?_; (with_reducible refine (glob_Match.calls (((⟨#[42, 42]⟩ : ByteArray) ++ a0) ++ (⟨#[42, 42]⟩ : ByteArray)) a1 t198 t199 _ A26.out).mono ?_); rintro e w42 ⟨rfl, hb⟩; refine ⟨_, rfl, ?_⟩; have n0_ := Aside0.mk (below_step (by repeat (first | (with_reducible first | exact HB.out | apply below_alloc | apply pw_below_drewN | apply below_drew1) | exact HB.out)) hb); clear HB; have HB := n0_; clear n0_; (try clear hb); (try clear hb2); (try clear hk); (try clear hi)) | (go_at_call 13; (with_reducible refine (shuttlelaw6_awake.calls  t201 _ A40.out).mono ?_); rintro e w43 ⟨rfl, hb⟩; have n0_ := Aside0.mk (below_step (by repeat (first | (with_reducible first | exact HB.out | apply below_alloc | apply pw_below_drewN | apply below_drew1) | exact HB.out)) hb); clear HB; have HB := n0_; clear n0_; (try clear hb); (try clear hb2); (try clear hk); (try clear hi)))
                      go_ret
                      exact ⟨by first | rfl | (simp [errW_none, errW_some] <;> rfl) | (simp [*, errW_none, errW_some] <;> rfl), by repeat (first | (with_reducible first | exact HB.out | apply below_alloc | apply pw_below_drewN | apply below_drew1) | exact HB.out)⟩
                  · rw [if_neg c28] at H
                    have c28b0 : (t199 == 0) = false := beq_eq_false_iff_ne.mpr c28
                    have c28b1 : (t199 != 0) = true := bne_iff_ne.mpr c28
                    obtain rfl := Option.some.inj H
                    go_wp2_with (first | ((with_reducible refine gate_callee (f := 15) rfl ?_); refine goesL_ (some 55) rfl rfl Try.func15 (by kernel_rfl) rfl #[.string (((⟨#[42, 42]⟩ : ByteArray) ++ a0) ++ (⟨#[42, 42]⟩ : ByteArray)), .string ((a2 ++ a1) ++ a3)] rfl (by (try simp only [List.map_toArray, List.map_cons, List.map_nil]); first | done | rfl | (simp only [List.length_drop, List.length_take]; rfl)) ?_; (with_reducible refine (glob_Match.calls (((⟨#[42, 42]⟩ : ByteArray) ++ a0) ++ (⟨#[42, 42]⟩ : ByteArray)) ((a2 ++ a1) ++ a3) t196 t197 _ A25.out).mono ?_); rintro e w44 ⟨rfl, hb⟩; refine ⟨_, rfl, ?_⟩; have n0_ := Aside0.mk (below_step (by repeat (first | (with_reducible first | exact HB.out | apply below_alloc | apply pw_below_drewN | apply below_drew1) | exact HB.out)) hb); clear HB; have HB := n0_; clear n0_; (try clear hb); (try clear hb2); (try clear hk); (try clear hi)) | ((with_reducible refine gate_callee (f := 15) rfl ?_); refine goesL_ (some 63) rfl rfl Try.func15 (by kernel_rfl) rfl #[.string (((⟨#[42, 42]⟩ : ByteArray) ++ a0) ++ (⟨#[42, 42]⟩ : ByteArray)), .string a1] rfl (by (try simp only [List.map_toArray, List.map_cons, List.map_nil]); first | done | rfl | (simp only [List.length_drop, List.length_take]; rfl)) ?_; (with_reducible refine (glob_Match.calls (((⟨#[42, 42]⟩ : ByteArray) ++ a0) ++ (⟨#[42, 42]⟩ : ByteArray)) a1 t198 t199 _ A26.out).mono ?_); rintro e w45 ⟨rfl, hb⟩; refine ⟨_, rfl, ?_⟩; have n0_ := Aside0.mk (below_step (by repeat (first | (with_reducible first | exact HB.out | apply below_alloc | apply pw_below_drewN | apply below_drew1) | exact HB.out)) hb); clear HB; have HB := n0_; clear n0_; (try clear hb); (try clear hb2); (try clear hk); (try clear hi)))
                    go_ret
                    exact ⟨by first | rfl | (simp [errW_none, errW_some] <;> rfl) | (simp [*, errW_none, errW_some] <;> rfl), by repeat (first | (with_reducible first | exact HB.out | apply below_alloc | apply pw_below_drewN | apply below_drew1) | exact HB.out)⟩
                · rw [if_neg c27] at H
                  have c27b0 : (t197 == 0) = false := beq_eq_false_iff_ne.mpr c27
                  have c27b1 : (t197 != 0) = true := bne_iff_ne.mpr c27
                  obtain rfl := Option.some.inj H
                  go_wp2_with (first | ((with_reducible refine gate_callee (f := 15) rfl ?_); refine goesL_ (some 55) rfl rfl Try.func15 (by kernel_rfl) rfl #[.string (((⟨#[42, 42]⟩ : ByteArray) ++ a0) ++ (⟨#[42, 42]⟩ : ByteArray)), .string ((a2 ++ a1) ++ a3)] rfl (by (try simp only [List.map_toArray, List.map_cons, List.map_nil]); first | done | rfl | (simp only [List.length_drop, List.length_take]; rfl)) ?_; (with_reducible refine (glob_Match.calls (((⟨#[42, 42]⟩ : ByteArray) ++ a0) ++ (⟨#[42, 42]⟩ : ByteArray)) ((a2 ++ a1) ++ a3) t196 t197 _ A25.out).mono ?_); rintro e w46 ⟨rfl, hb⟩; refine ⟨_, rfl, ?_⟩; have n0_ := Aside0.mk (below_step (by repeat (first | (with_reducible first | exact HB.out | apply below_alloc | apply pw_below_drewN | apply below_drew1) | exact HB.out)) hb); clear HB; have HB := n0_; clear n0_; (try clear hb); (try clear hb2); (try clear hk); (try clear hi)) | ((with_reducible refine gate_callee (f := 15) rfl ?_); refine goesL_ (some 63) rfl rfl Try.func15 (by kernel_rfl) rfl #[.string (((⟨#[42, 42]⟩ : ByteArray) ++ a0) ++ (⟨#[42, 42]⟩ : ByteArray)), .string a1] rfl (by (try simp only [List.map_toArray, List.map_cons, List.map_nil]); first | done | rfl | (simp only [List.length_drop, List.length_take]; rfl)) ?_; (with_reducible refine (glob_Match.calls (((⟨#[42, 42]⟩ : ByteArray) ++ a0) ++ (⟨#[42, 42]⟩ : ByteArray)) a1 t198 t199 _ A26.out).mono ?_); rintro e w47 ⟨rfl, hb⟩; refine ⟨_, rfl, ?_⟩; have n0_ := Aside0.mk (below_step (by repeat (first | (with_reducible first | exact HB.out | apply below_alloc | apply pw_below_drewN | apply below_drew1) | exact HB.out)) hb); clear HB; have HB := n0_; clear n0_; (try clear hb); (try clear hb2); (try clear hk); (try clear hi)))
                  go_ret
                  exact ⟨by first | rfl | (simp [errW_none, errW_some] <;> rfl) | (simp [*, errW_none, errW_some] <;> rfl), by repeat (first | (with_reducible first | exact HB.out | apply below_alloc | apply pw_below_drewN | apply below_drew1) | exact HB.out)⟩
              · rw [if_neg c24] at H
                exact absurd H (by simp)
            · rw [if_neg c23] at H
              exact absurd H (by simp)
          · rw [if_neg c22] at H
            exact absurd H (by simp)
        · rw [if_neg c21] at H
          exact absurd H (by simp)

/-- THE ONE PURE STATEMENT of shuttlelaw6_GlobWithin: yours. -/
def shuttlelaw6_GlobWithin.Pure : Prop := ∀ (a0 : ByteArray) (a1 : ByteArray) (a2 : ByteArray) (a3 : ByteArray), a0.size ≤ 140737488351232 → a1.size ≤ 140737488351232 → a2.size ≤ 140737488351232 → a3.size ≤ 140737488351232 → ∃ k, shuttlelaw6_GlobWithin.f k a0 a1 a2 a3 = some true
theorem shuttlelaw6_GlobWithin.walk (P : shuttlelaw6_GlobWithin.Pure) (a0 : ByteArray) (a1 : ByteArray) (a2 : ByteArray) (a3 : ByteArray) (w : World) (w0 : a0.size ≤ 140737488351232) (w1 : a1.size ≤ 140737488351232) (w2 : a2.size ≤ 140737488351232) (w3 : a3.size ≤ 140737488351232) :
    Calls Try.prog 10 #[.string a0, .string a1, .string a2, .string a3] w fun e w' => e = .returned (.bool true) ∧ Below w.heap.size w w' := by
  obtain ⟨k, h⟩ := P a0 a1 a2 a3 w0 w1 w2 w3
  refine (shuttlelaw6_GlobWithin.calls k a0 a1 a2 a3 true w h).mono ?_
  rintro e w' ⟨rfl, hd⟩
  exact ⟨rfl, hd⟩

end Go.Proofs.Ytofgjlfgpnmmdaa.PA
