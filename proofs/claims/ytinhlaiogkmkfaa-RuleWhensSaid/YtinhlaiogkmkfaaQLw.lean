import Derived.Test.YtinhlaiogkmkfaaQPAx9
import Derived.Test.YtinhlaiogkmkfaaQLd
-- Printed by a program of this session over the kit's print, with contracts of this session's own. Not trusted: Lean checks it.
namespace Go.Proofs.Ytinhlaiogkmkfaa.PA
open Go.RowKit Go.Proofs.YtinhlaiogkmkfaaW.PrintWords Go.Proofs.YtinhlaiogkmkfaaW.PrintLast Go.Proofs.YtinhlaiogkmkfaaW.PrintMore
attribute [local go_sem] max2_int min2_int max_two min_two max_three min_three max_four min_four   -- for this text's walks alone
set_option linter.unusedVariables false
set_option linter.unusedSimpArgs false

/-! ### shuttleref12_When: function 24 -/
mutual
def shuttleref12_When.l0 : Nat → List (S48) → Int → List (S56) → Int → Option (Int × Int)
  | 0, _, _, _, _ => none
  | k + 1, x0, x1, x2, x8 => if x8 < (x0.length : Int) then (if 0 ≤ x8 then (if (((rd_T48 x0 x8).f0).length : Int) > 0 then ((shuttleref11_Check.f k ((rd_T48 x0 x8).f0)).bind fun t491 => (if t491 = true then (shuttleref12_When.l0 k x0 x1 x2 (wrap64 (x8 + 1))) else (some (0, 120)))) else (shuttleref12_When.l0 k x0 x1 x2 (wrap64 (x8 + 1)))) else (none)) else ((shuttleref12_WhenIs.f x1).bind fun t492 => (if t492 = true then (shuttleref12_When.j1 k x0 x1 x2 (decide ((x0.length : Int) > 16))) else (shuttleref12_When.j1 k x0 x1 x2 true)))
def shuttleref12_When.j1 : Nat → List (S48) → Int → List (S56) → Bool → Option (Int × Int)
  | 0, _, _, _, _ => none
  | k + 1, x0, x1, x2, x9 => shuttleref12_When.l1 k x0 x1 x2 x9 0
def shuttleref12_When.l1 : Nat → List (S48) → Int → List (S56) → Bool → Int → Option (Int × Int)
  | 0, _, _, _, _, _ => none
  | k + 1, x0, x1, x2, x9, x10 => if x10 < (x0.length : Int) then (if x9 = true then (shuttleref12_When.l1 k x0 x1 x2 true (wrap64 (x10 + 1))) else (if 0 ≤ x10 then ((shuttleref12_WhenIs.f ((rd_T48 x0 x10).f1)).bind fun t494 => (shuttleref12_When.l1 k x0 x1 x2 (!t494) (wrap64 (x10 + 1)))) else (none))) else (if x9 = true then (some (0, 121)) else (if (x0.length : Int) = 0 then (some (x1, 0)) else (shuttleref12_When.l2 k x0 x2 0)))
def shuttleref12_When.l2 : Nat → List (S48) → List (S56) → Int → Option (Int × Int)
  | 0, _, _, _ => none
  | k + 1, x0, x2, x11 => if x11 < (x0.length : Int) then (if 0 ≤ x11 then (if ((((rd_T48 x0 x11).f0).length : Int) = 0) then (if (((rd_T48 x0 x11).f0).length : Int) = 0 then (some ((rd_T48 x0 x11).f1, 0)) else (shuttleref12_When.l2 k x0 x2 (wrap64 (x11 + 1)))) else ((shuttleref12_Eval.f k ((rd_T48 x0 x11).f0) x2).bind fun bt498 => (if bt498.1 = true then (some ((rd_T48 x0 x11).f1, 0)) else (shuttleref12_When.l2 k x0 x2 (wrap64 (x11 + 1)))))) else (none)) else (some (3, 0))
end
def shuttleref12_When.f (k : Nat) (l0 : List (S48)) (a1 : Int) (l2 : List (S56)) : Option (Int × Int) := shuttleref12_When.l0 k l0 a1 l2 0
set_option maxHeartbeats 8000000 in
set_option maxRecDepth 100000 in
theorem shuttleref12_When.calls (k : Nat) (A0 : Option Addr) (c0 : Nat) (l0 : List (S48)) (a1 : Int) (A2 : Option Addr) (c2 : Nat) (l2 : List (S56)) (r1 : Int) (r2 : Int) (w : World) (hr0 : Kd.C k48 w A0 l0.length l0) (hc0 : l0.length ≤ c0) (hr2 : Kd.C k56 w A2 l2.length l2) (hc2 : l2.length ≤ c2) (h : shuttleref12_When.f k l0 a1 l2 = some (r1, r2)) :
    Calls Try.prog 24 #[.slice A0 l0.length c0, .int .i64 a1, .slice A2 l2.length c2] w fun e w' => e = .returned (.tuple #[.int .i64 r1, .int .i64 r2]) ∧ Below w.heap.size w w' := by
  have HR0 := Aside0.mk hr0
  have HC0 := Aside0.mk hc0
  clear hr0 hc0
  have HR2 := Aside0.mk hr2
  have HC2 := Aside0.mk hc2
  clear hr2 hc2
  have HB := Aside0.mk (Below.refl w.heap.size w)
  have H : (shuttleref12_When.l0 k l0 a1 l2 0) = some (r1, r2) := h
  clear h
  have H' := Aside0.mk H
  clear H
  go_enter Try.func24, Try.ntmps24
  go_wp2
  go_loopg [8] k (fun kq v8 w' => ∃ (x8_1 : Int), v8 = .int .i64 x8_1 ∧ Aside0 (shuttleref12_When.l0 kq l0 a1 l2 x8_1 = some (r1, r2)) ∧ Aside0 (kq ≤ k) ∧ Aside0 (Below w.heap.size w w'))
  case atStart => exact ⟨(0), (by first | rfl | (simp; done) | (simp [*]; done)), H', ⟨Nat.le_refl _⟩, ⟨by repeat (first | (with_reducible first | exact HB.out | apply below_alloc | apply pw_below_drewN | apply below_drew1) | exact HB.out)⟩⟩
  case round =>
    clear H'
    try clear c2
    try clear p2
    obtain ⟨x8_1, rfl, HA, HK1, HB⟩ := hrel
    cases gk with
    | zero => exact absurd HA.out (by simp [shuttleref12_When.l0])
    | succ k1 =>
      have H := HA.out
      clear HA
      simp only [shuttleref12_When.l0] at H
      by_cases c4 : x8_1 < (l0.length : Int)
      · rw [if_pos c4] at H
        have c4b0 : decide (x8_1 < (l0.length : Int)) = true := decide_eq_true c4
        clear c4
        by_cases c5 : 0 ≤ x8_1
        · rw [if_pos c5] at H
          have c5b0 : decide (0 ≤ x8_1) = true := decide_eq_true c5
          clear c5
          by_cases c6 : (((rd_T48 l0 x8_1).f0).length : Int) > 0
          · rw [if_pos c6] at H
            have c6b0 : decide (0 < (((rd_T48 l0 x8_1).f0).length : Int)) = true := decide_eq_true c6
            have c6b1 : decide (0 < ((rd_T48 l0 x8_1).f0).length) = true := decide_eq_true (by omega)
            clear c6
            replace H := Option.bind_eq_some_iff.mp H
            obtain ⟨t491, A70, H⟩ := H
            replace H : (if t491 = true then (shuttleref12_When.l0 k1 l0 a1 l2 (wrap64 (x8_1 + 1))) else (some (0, 120))) = some (r1, r2) := H
            have A7 := Aside0.mk A70
            clear A70
            by_cases c8 : t491 = true
            · subst c8
              have H1 : (shuttleref12_When.l0 k1 l0 a1 l2 (wrap64 (x8_1 + 1))) = some (r1, r2) := by rw [if_pos rfl] at H; exact H
              clear H
              have H := H1
              clear H1
              have H' := Aside0.mk H
              clear H
              have p489 : 0 ≤ (x8_1 : Int) := of_decide_eq_true (by first | (with_reducible assumption) | assumption)
              have q489 : x8_1 < (l0.length : Int) := of_decide_eq_true (by first | (with_reducible assumption) | assumption)
              obtain ⟨ad489, A489_0, c489_0, e489, hx489_0, hx489_1, hl489_0, hi489_0⟩ := at_T48 HR0.out x8_1 p489 q489
              cases e489
              replace hx489_0 := (HB.out.cell (World.block_lt_of_cell? w _ hx489_0)).trans hx489_0
              replace hx489_1 := (HB.out.cell (World.block_lt_of_cell? w _ hx489_1)).trans hx489_1
              have HR489_0 := Aside0.mk hi489_0
              have HC489_0 := Aside0.mk hl489_0
              clear hi489_0 hl489_0
              replace p489 := eq_true p489
              replace q489 := eq_true q489
              have p490 : 0 ≤ (x8_1 : Int) := of_decide_eq_true (by first | (with_reducible assumption) | assumption)
              have q490 : x8_1 < (l0.length : Int) := of_decide_eq_true (by first | (with_reducible assumption) | assumption)
              obtain ⟨ad490, A490_0, c490_0, e490, hx490_0, hx490_1, hl490_0, hi490_0⟩ := at_T48 HR0.out x8_1 p490 q490
              obtain rfl : ad489 = ad490 := (by injection e490)
              replace hx490_0 := (HB.out.cell (World.block_lt_of_cell? w _ hx490_0)).trans hx490_0
              replace hx490_1 := (HB.out.cell (World.block_lt_of_cell? w _ hx490_1)).trans hx490_1
              have HR490_0 := Aside0.mk hi490_0
              have HC490_0 := Aside0.mk hl490_0
              clear hi490_0 hl490_0
              replace p490 := eq_true p490
              replace q490 := eq_true q490
              have ea_ := Option.some.inj (hx489_0.symm.trans hx490_0)
              injection ea_ with ea_ en_ ec_
              subst ea_
              subst ec_
              clear en_
              go_wp2_with (first | (go_at_call 32; (with_reducible refine (shuttleref11_Check.calls k1 _ _ ((rd_T48 l0 x8_1).f0) true _ ?side1 ?side2 A7.out).mono ?_); (case side1 => repeat (first | exact (Kd.C_below HR490_0.out HB.out) | (with_reducible refine Kd.C_alloc ?_ _) | (with_reducible refine Kd.C_drewN ?_ _) | (with_reducible refine Kd.C_drew ?_))); (case side2 => exact HC490_0.out); rintro e w9 ⟨rfl, hb⟩; have n0_ := Aside0.mk (below_step (by repeat (first | (with_reducible first | exact HB.out | apply below_alloc | apply pw_below_drewN | apply below_drew1) | exact HB.out)) hb); clear HB; have HB := n0_; clear n0_; (try clear hb); (try clear hb2); (try clear hk); (try clear hi)))
              go_roundg k1
              case measure => have := HK1.out; omega
              case rel => exact ⟨(wrap64 (x8_1 + 1)), (by first | rfl | (simp; done) | (simp [*]; done)), H', ⟨by have := HK1.out; omega⟩, ⟨by repeat (first | (with_reducible first | exact HB.out | apply below_alloc | apply pw_below_drewN | apply below_drew1) | exact HB.out)⟩⟩
            · replace c8 := Bool.eq_false_iff.mpr c8
              subst c8
              have H1 : (some (0, 120)) = some (r1, r2) := by rw [if_neg (show ¬ (false = true) by decide)] at H; exact H
              clear H
              have H := H1
              clear H1
              simp only [Option.some.injEq, Prod.mk.injEq] at H
              obtain ⟨rfl, rfl⟩ := H
              have p489 : 0 ≤ (x8_1 : Int) := of_decide_eq_true (by first | (with_reducible assumption) | assumption)
              have q489 : x8_1 < (l0.length : Int) := of_decide_eq_true (by first | (with_reducible assumption) | assumption)
              obtain ⟨ad489, A489_0, c489_0, e489, hx489_0, hx489_1, hl489_0, hi489_0⟩ := at_T48 HR0.out x8_1 p489 q489
              cases e489
              replace hx489_0 := (HB.out.cell (World.block_lt_of_cell? w _ hx489_0)).trans hx489_0
              replace hx489_1 := (HB.out.cell (World.block_lt_of_cell? w _ hx489_1)).trans hx489_1
              have HR489_0 := Aside0.mk hi489_0
              have HC489_0 := Aside0.mk hl489_0
              clear hi489_0 hl489_0
              replace p489 := eq_true p489
              replace q489 := eq_true q489
              have p490 : 0 ≤ (x8_1 : Int) := of_decide_eq_true (by first | (with_reducible assumption) | assumption)
              have q490 : x8_1 < (l0.length : Int) := of_decide_eq_true (by first | (with_reducible assumption) | assumption)
              obtain ⟨ad490, A490_0, c490_0, e490, hx490_0, hx490_1, hl490_0, hi490_0⟩ := at_T48 HR0.out x8_1 p490 q490
              obtain rfl : ad489 = ad490 := (by injection e490)
              replace hx490_0 := (HB.out.cell (World.block_lt_of_cell? w _ hx490_0)).trans hx490_0
              replace hx490_1 := (HB.out.cell (World.block_lt_of_cell? w _ hx490_1)).trans hx490_1
              have HR490_0 := Aside0.mk hi490_0
              have HC490_0 := Aside0.mk hl490_0
              clear hi490_0 hl490_0
              replace p490 := eq_true p490
              replace q490 := eq_true q490
              have ea_ := Option.some.inj (hx489_0.symm.trans hx490_0)
              injection ea_ with ea_ en_ ec_
              subst ea_
              subst ec_
              clear en_
              go_wp2_with (first | (go_at_call 32; (with_reducible refine (shuttleref11_Check.calls k1 _ _ ((rd_T48 l0 x8_1).f0) false _ ?side1 ?side2 A7.out).mono ?_); (case side1 => repeat (first | exact (Kd.C_below HR490_0.out HB.out) | (with_reducible refine Kd.C_alloc ?_ _) | (with_reducible refine Kd.C_drewN ?_ _) | (with_reducible refine Kd.C_drew ?_))); (case side2 => exact HC490_0.out); rintro e w10 ⟨rfl, hb⟩; have n0_ := Aside0.mk (below_step (by repeat (first | (with_reducible first | exact HB.out | apply below_alloc | apply pw_below_drewN | apply below_drew1) | exact HB.out)) hb); clear HB; have HB := n0_; clear n0_; (try clear hb); (try clear hb2); (try clear hk); (try clear hi)))
              go_ret2
              exact ⟨by first | rfl | (simp [errW_none, errW_some] <;> rfl) | (simp [*, errW_none, errW_some] <;> rfl), by repeat (first | (with_reducible first | exact HB.out | apply below_alloc | apply pw_below_drewN | apply below_drew1) | exact HB.out)⟩
          · rw [if_neg c6] at H
            have c6b0 : decide (0 < (((rd_T48 l0 x8_1).f0).length : Int)) = false := decide_eq_false c6
            have c6b1 : decide (0 < ((rd_T48 l0 x8_1).f0).length) = false := decide_eq_false (by omega)
            clear c6
            have H' := Aside0.mk H
            clear H
            have p489 : 0 ≤ (x8_1 : Int) := of_decide_eq_true (by first | (with_reducible assumption) | assumption)
            have q489 : x8_1 < (l0.length : Int) := of_decide_eq_true (by first | (with_reducible assumption) | assumption)
            obtain ⟨ad489, A489_0, c489_0, e489, hx489_0, hx489_1, hl489_0, hi489_0⟩ := at_T48 HR0.out x8_1 p489 q489
            cases e489
            replace hx489_0 := (HB.out.cell (World.block_lt_of_cell? w _ hx489_0)).trans hx489_0
            replace hx489_1 := (HB.out.cell (World.block_lt_of_cell? w _ hx489_1)).trans hx489_1
            have HR489_0 := Aside0.mk hi489_0
            have HC489_0 := Aside0.mk hl489_0
            clear hi489_0 hl489_0
            replace p489 := eq_true p489
            replace q489 := eq_true q489
            go_wp2
            go_roundg k1
            case measure => have := HK1.out; omega
            case rel => exact ⟨(wrap64 (x8_1 + 1)), (by first | rfl | (simp; done) | (simp [*]; done)), H', ⟨by have := HK1.out; omega⟩, ⟨by repeat (first | (with_reducible first | exact HB.out | apply below_alloc | apply pw_below_drewN | apply below_drew1) | exact HB.out)⟩⟩
        · rw [if_neg c5] at H
          exact absurd H (by simp)
      · rw [if_neg c4] at H
        have c4b0 : decide (x8_1 < (l0.length : Int)) = false := decide_eq_false c4
        clear c4
        have HC11 := Aside0.mk H
        clear H
        go_upto_region 6 with (fail)
        go_cut [9] (fun v9 wc => ∃ (kq : Nat) (x9_10 : Bool), v9 = .bool x9_10 ∧ Aside0 (shuttleref12_When.j1 kq l0 a1 l2 x9_10 = some (r1, r2)) ∧ Aside0 (kq ≤ k1) ∧ Aside0 (Below w.heap.size w wc))
        case first =>
          have H := HC11.out
          clear HC11
          replace H := Option.bind_eq_some_iff.mp H
          obtain ⟨t492, A120, H⟩ := H
          replace H : (if t492 = true then (shuttleref12_When.j1 k1 l0 a1 l2 (decide ((l0.length : Int) > 16))) else (shuttleref12_When.j1 k1 l0 a1 l2 true)) = some (r1, r2) := H
          have A12 := Aside0.mk A120
          clear A120
          by_cases c13 : t492 = true
          · subst c13
            have H1 : (shuttleref12_When.j1 k1 l0 a1 l2 (decide ((l0.length : Int) > 16))) = some (r1, r2) := by rw [if_pos rfl] at H; exact H
            clear H
            have H := H1
            clear H1
            have H' := Aside0.mk H
            clear H
            go_wp2_with (first | ((with_reducible refine gate_callee (f := 44) rfl ?_); refine goesL_ (some 36) rfl rfl Try.func44 (by kernel_rfl) rfl #[.int .i64 a1] rfl (by (try simp only [List.map_toArray, List.map_cons, List.map_nil]); first | done | rfl | (simp only [List.length_drop, List.length_take]; rfl)) ?_; (with_reducible refine (shuttleref12_WhenIs.calls a1 true _ A12.out).mono ?_); rintro e w' ⟨rfl, ⟨nd, rfl⟩⟩; refine ⟨_, rfl, ?_⟩))
            go_meet
            case rel => exact ⟨_, (decide ((l0.length : Int) > 16)), (by first | rfl | (simp; done) | (simp [*]; done)), H', ⟨by have := HK1.out; first | omega | exact Nat.le_refl _⟩, ⟨by repeat (first | (with_reducible first | exact HB.out | apply below_alloc | apply pw_below_drewN | apply below_drew1) | exact HB.out)⟩⟩
          · replace c13 := Bool.eq_false_iff.mpr c13
            subst c13
            have H1 : (shuttleref12_When.j1 k1 l0 a1 l2 true) = some (r1, r2) := by rw [if_neg (show ¬ (false = true) by decide)] at H; exact H
            clear H
            have H := H1
            clear H1
            have H' := Aside0.mk H
            clear H
            go_wp2_with (first | ((with_reducible refine gate_callee (f := 44) rfl ?_); refine goesL_ (some 36) rfl rfl Try.func44 (by kernel_rfl) rfl #[.int .i64 a1] rfl (by (try simp only [List.map_toArray, List.map_cons, List.map_nil]); first | done | rfl | (simp only [List.length_drop, List.length_take]; rfl)) ?_; (with_reducible refine (shuttleref12_WhenIs.calls a1 false _ A12.out).mono ?_); rintro e w' ⟨rfl, ⟨nd, rfl⟩⟩; refine ⟨_, rfl, ?_⟩))
            go_meet
            case rel => exact ⟨_, (true), (by first | rfl | (simp; done) | (simp [*]; done)), H', ⟨by have := HK1.out; first | omega | exact Nat.le_refl _⟩, ⟨by repeat (first | (with_reducible first | exact HB.out | apply below_alloc | apply pw_below_drewN | apply below_drew1) | exact HB.out)⟩⟩
        case rest =>
          clear HC11
          try clear c1
          try clear c2
          try clear p2
          try clear c4
          try clear c4b0
          try clear p4
          try clear q4
          try clear hx4
          try clear c5
          try clear c5b0
          try clear c6
          try clear c6b0
          try clear c6b1
          try clear p6
          try clear c8
          try clear c13
          try clear hx489_0
          try clear hx489_1
          try clear hx490_0
          try clear hx490_1
          try clear p2
          try clear p489
          try clear p490
          try clear q489
          try clear q490
          obtain ⟨kq, x9_10, rfl, HA, HJ10, HB⟩ := hcut
          cases kq with
          | zero => exact absurd HA.out (by simp [shuttleref12_When.j1])
          | succ kj10 =>
            have H := HA.out
            clear HA
            simp only [shuttleref12_When.j1] at H
            have H' := Aside0.mk H
            clear H
            go_wp2
            go_loopg [9, 10] kj10 (fun kq v9 v10 w' => ∃ (x9_3 : Bool) (x10_3 : Int), v9 = .bool x9_3 ∧ v10 = .int .i64 x10_3 ∧ Aside0 (shuttleref12_When.l1 kq l0 a1 l2 x9_3 x10_3 = some (r1, r2)) ∧ Aside0 (kq ≤ kj10) ∧ Aside0 (Below w.heap.size w w'))
            case atStart => exact ⟨(x9_10), (0), (by first | rfl | (simp; done) | (simp [*]; done)), (by first | rfl | (simp; done) | (simp [*]; done)), H', ⟨Nat.le_refl _⟩, ⟨by repeat (first | (with_reducible first | exact HB.out | apply below_alloc | apply pw_below_drewN | apply below_drew1) | exact HB.out)⟩⟩
            case round =>
              clear H'
              try clear c1
              try clear c2
              try clear p2
              try clear c4
              try clear c4b0
              try clear p4
              try clear q4
              try clear hx4
              try clear c5
              try clear c5b0
              try clear c6
              try clear c6b0
              try clear c6b1
              try clear p6
              try clear c8
              try clear c13
              try clear hx489_0
              try clear hx489_1
              try clear hx490_0
              try clear hx490_1
              try clear p2
              try clear p4
              try clear p489
              try clear p490
              try clear p6
              try clear q4
              try clear q489
              try clear q490
              obtain ⟨x9_3, x10_3, rfl, rfl, HA, HK3, HB⟩ := hrel
              cases gk with
              | zero => exact absurd HA.out (by simp [shuttleref12_When.l1])
              | succ k3 =>
                have H := HA.out
                clear HA
                simp only [shuttleref12_When.l1] at H
                by_cases c14 : x10_3 < (l0.length : Int)
                · rw [if_pos c14] at H
                  have c14b0 : decide (x10_3 < (l0.length : Int)) = true := decide_eq_true c14
                  clear c14
                  by_cases c15 : x9_3 = true
                  · subst c15
                    have H1 : (shuttleref12_When.l1 k3 l0 a1 l2 true (wrap64 (x10_3 + 1))) = some (r1, r2) := by rw [if_pos rfl] at H; exact H
                    clear H
                    have H := H1
                    clear H1
                    have H' := Aside0.mk H
                    clear H
                    go_wp2
                    go_roundg k3
                    case measure => have := HK1.out; have := HJ10.out; have := HK3.out; omega
                    case rel => exact ⟨(true), (wrap64 (x10_3 + 1)), (by first | rfl | (simp; done) | (simp [*]; done)), (by first | rfl | (simp; done) | (simp [*]; done)), H', ⟨by have := HK1.out; have := HJ10.out; have := HK3.out; omega⟩, ⟨by repeat (first | (with_reducible first | exact HB.out | apply below_alloc | apply pw_below_drewN | apply below_drew1) | exact HB.out)⟩⟩
                  · replace c15 := Bool.eq_false_iff.mpr c15
                    subst c15
                    have H1 : (if 0 ≤ x10_3 then ((shuttleref12_WhenIs.f ((rd_T48 l0 x10_3).f1)).bind fun t494 => (shuttleref12_When.l1 k3 l0 a1 l2 (!t494) (wrap64 (x10_3 + 1)))) else (none)) = some (r1, r2) := by rw [if_neg (show ¬ (false = true) by decide)] at H; exact H
                    clear H
                    have H := H1
                    clear H1
                    by_cases c16 : 0 ≤ x10_3
                    · rw [if_pos c16] at H
                      have c16b0 : decide (0 ≤ x10_3) = true := decide_eq_true c16
                      clear c16
                      replace H := Option.bind_eq_some_iff.mp H
                      obtain ⟨t494, A170, H⟩ := H
                      replace H : (shuttleref12_When.l1 k3 l0 a1 l2 (!t494) (wrap64 (x10_3 + 1))) = some (r1, r2) := H
                      have A17 := Aside0.mk A170
                      clear A170
                      have H' := Aside0.mk H
                      clear H
                      have p493 : 0 ≤ (x10_3 : Int) := of_decide_eq_true (by first | (with_reducible assumption) | assumption)
                      have q493 : x10_3 < (l0.length : Int) := of_decide_eq_true (by first | (with_reducible assumption) | assumption)
                      obtain ⟨ad493, A493_0, c493_0, e493, hx493_0, hx493_1, hl493_0, hi493_0⟩ := at_T48 HR0.out x10_3 p493 q493
                      cases e493
                      replace hx493_0 := (HB.out.cell (World.block_lt_of_cell? w _ hx493_0)).trans hx493_0
                      replace hx493_1 := (HB.out.cell (World.block_lt_of_cell? w _ hx493_1)).trans hx493_1
                      have HR493_0 := Aside0.mk hi493_0
                      have HC493_0 := Aside0.mk hl493_0
                      clear hi493_0 hl493_0
                      replace p493 := eq_true p493
                      replace q493 := eq_true q493
                      go_wp2_with (first | (go_at_call 44; (with_reducible refine (shuttleref12_WhenIs.calls ((rd_T48 l0 x10_3).f1) t494 _ A17.out).mono ?_); rintro e w' ⟨rfl, ⟨nd, rfl⟩⟩))
                      go_roundg k3
                      case measure => have := HK1.out; have := HJ10.out; have := HK3.out; omega
                      case rel => exact ⟨(!t494), (wrap64 (x10_3 + 1)), (by first | rfl | (simp; done) | (simp [*]; done)), (by first | rfl | (simp; done) | (simp [*]; done)), H', ⟨by have := HK1.out; have := HJ10.out; have := HK3.out; omega⟩, ⟨by repeat (first | (with_reducible first | exact HB.out | apply below_alloc | apply pw_below_drewN | apply below_drew1) | exact HB.out)⟩⟩
                    · rw [if_neg c16] at H
                      exact absurd H (by simp)
                · rw [if_neg c14] at H
                  have c14b0 : decide (x10_3 < (l0.length : Int)) = false := decide_eq_false c14
                  clear c14
                  by_cases c18 : x9_3 = true
                  · subst c18
                    have H1 : (some (0, 121)) = some (r1, r2) := by rw [if_pos rfl] at H; exact H
                    clear H
                    have H := H1
                    clear H1
                    simp only [Option.some.injEq, Prod.mk.injEq] at H
                    obtain ⟨rfl, rfl⟩ := H
                    go_wp2
                    go_ret2
                    exact ⟨by first | rfl | (simp [errW_none, errW_some] <;> rfl) | (simp [*, errW_none, errW_some] <;> rfl), by repeat (first | (with_reducible first | exact HB.out | apply below_alloc | apply pw_below_drewN | apply below_drew1) | exact HB.out)⟩
                  · replace c18 := Bool.eq_false_iff.mpr c18
                    subst c18
                    have H1 : (if (l0.length : Int) = 0 then (some (a1, 0)) else (shuttleref12_When.l2 k3 l0 l2 0)) = some (r1, r2) := by rw [if_neg (show ¬ (false = true) by decide)] at H; exact H
                    clear H
                    have H := H1
                    clear H1
                    by_cases c19 : (l0.length : Int) = 0
                    · rw [if_pos c19] at H
                      have c19b0 : ((l0.length : Int) == 0) = true := beq_iff_eq.mpr c19
                      have c19b1 : ((l0.length : Int) != 0) = false := bne_eq_false_iff_eq.mpr c19
                      clear c19
                      simp only [Option.some.injEq, Prod.mk.injEq] at H
                      obtain ⟨rfl, rfl⟩ := H
                      go_wp2
                      go_ret2
                      exact ⟨by first | rfl | (simp [errW_none, errW_some] <;> rfl) | (simp [*, errW_none, errW_some] <;> rfl), by repeat (first | (with_reducible first | exact HB.out | apply below_alloc | apply pw_below_drewN | apply below_drew1) | exact HB.out)⟩
                    · rw [if_neg c19] at H
                      have c19b0 : ((l0.length : Int) == 0) = false := beq_eq_false_iff_ne.mpr c19
                      have c19b1 : ((l0.length : Int) != 0) = true := bne_iff_ne.mpr c19
                      have c19b2 : ¬ (l0 = []) := fun h_ => c19 (by rw [h_]; rfl)
                      have H' := Aside0.mk H
                      clear H
                      go_wp2
                      go_loopg [11] k3 (fun kq v11 w' => ∃ (x11_4 : Int), v11 = .int .i64 x11_4 ∧ Aside0 (shuttleref12_When.l2 kq l0 l2 x11_4 = some (r1, r2)) ∧ Aside0 (kq ≤ k3) ∧ Aside0 (Below w.heap.size w w'))
                      case atStart => exact ⟨(0), (by first | rfl | (simp; done) | (simp [*]; done)), H', ⟨Nat.le_refl _⟩, ⟨by repeat (first | (with_reducible first | exact HB.out | apply below_alloc | apply pw_below_drewN | apply below_drew1) | exact HB.out)⟩⟩
                      case round =>
                        clear H'
                        try clear c1
                        try clear c2
                        try clear p2
                        try clear c4
                        try clear c4b0
                        try clear p4
                        try clear q4
                        try clear hx4
                        try clear c5
                        try clear c5b0
                        try clear c6
                        try clear c6b0
                        try clear c6b1
                        try clear p6
                        try clear c8
                        try clear c13
                        try clear c14
                        try clear c14b0
                        try clear c15
                        try clear c16
                        try clear c16b0
                        try clear c18
                        try clear c19
                        try clear c19b0
                        try clear c19b1
                        try clear c19b2
                        try clear hx489_0
                        try clear hx489_1
                        try clear hx490_0
                        try clear hx490_1
                        try clear hx493_0
                        try clear hx493_1
                        try clear p2
                        try clear p4
                        try clear p489
                        try clear p490
                        try clear p493
                        try clear p6
                        try clear q4
                        try clear q489
                        try clear q490
                        try clear q493
                        obtain ⟨x11_4, rfl, HA, HK4, HB⟩ := hrel
                        cases gk with
                        | zero => exact absurd HA.out (by simp [shuttleref12_When.l2])
                        | succ k4 =>
                          have H := HA.out
                          clear HA
                          simp only [shuttleref12_When.l2] at H
                          by_cases c20 : x11_4 < (l0.length : Int)
                          · rw [if_pos c20] at H
                            have c20b0 : decide (x11_4 < (l0.length : Int)) = true := decide_eq_true c20
                            clear c20
                            by_cases c21 : 0 ≤ x11_4
                            · rw [if_pos c21] at H
                              have c21b0 : decide (0 ≤ x11_4) = true := decide_eq_true c21
                              clear c21
                              by_cases c22 : ((((rd_T48 l0 x11_4).f0).length : Int) = 0)
                              · rw [if_pos c22] at H
                                have c22b0 : ((((rd_T48 l0 x11_4).f0).length : Int) == 0) = true := beq_iff_eq.mpr c22
                                have c22b1 : ((((rd_T48 l0 x11_4).f0).length : Int) != 0) = false := bne_eq_false_iff_eq.mpr c22
                                clear c22
                                by_cases c23 : (((rd_T48 l0 x11_4).f0).length : Int) = 0
                                · rw [if_pos c23] at H
                                  have c23b0 : ((((rd_T48 l0 x11_4).f0).length : Int) == 0) = true := beq_iff_eq.mpr c23
                                  have c23b1 : ((((rd_T48 l0 x11_4).f0).length : Int) != 0) = false := bne_eq_false_iff_eq.mpr c23
                                  clear c23
                                  simp only [Option.some.injEq, Prod.mk.injEq] at H
                                  obtain ⟨rfl, rfl⟩ := H
                                  have p495 : 0 ≤ (x11_4 : Int) := of_decide_eq_true (by first | (with_reducible assumption) | assumption)
                                  have q495 : x11_4 < (l0.length : Int) := of_decide_eq_true (by first | (with_reducible assumption) | assumption)
                                  obtain ⟨ad495, A495_0, c495_0, e495, hx495_0, hx495_1, hl495_0, hi495_0⟩ := at_T48 HR0.out x11_4 p495 q495
                                  cases e495
                                  replace hx495_0 := (HB.out.cell (World.block_lt_of_cell? w _ hx495_0)).trans hx495_0
                                  replace hx495_1 := (HB.out.cell (World.block_lt_of_cell? w _ hx495_1)).trans hx495_1
                                  have HR495_0 := Aside0.mk hi495_0
                                  have HC495_0 := Aside0.mk hl495_0
                                  clear hi495_0 hl495_0
                                  replace p495 := eq_true p495
                                  replace q495 := eq_true q495
                                  have p496 : 0 ≤ (x11_4 : Int) := of_decide_eq_true (by first | (with_reducible assumption) | assumption)
                                  have q496 : x11_4 < (l0.length : Int) := of_decide_eq_true (by first | (with_reducible assumption) | assumption)
                                  obtain ⟨ad496, A496_0, c496_0, e496, hx496_0, hx496_1, hl496_0, hi496_0⟩ := at_T48 HR0.out x11_4 p496 q496
                                  obtain rfl : ad495 = ad496 := (by injection e496)
                                  replace hx496_0 := (HB.out.cell (World.block_lt_of_cell? w _ hx496_0)).trans hx496_0
                                  replace hx496_1 := (HB.out.cell (World.block_lt_of_cell? w _ hx496_1)).trans hx496_1
                                  have HR496_0 := Aside0.mk hi496_0
                                  have HC496_0 := Aside0.mk hl496_0
                                  clear hi496_0 hl496_0
                                  replace p496 := eq_true p496
                                  replace q496 := eq_true q496
                                  have ea_ := Option.some.inj (hx495_0.symm.trans hx496_0)
                                  injection ea_ with ea_ en_ ec_
                                  subst ea_
                                  subst ec_
                                  clear en_
                                  go_wp2
                                  go_ret2
                                  exact ⟨by first | rfl | (simp [errW_none, errW_some] <;> rfl) | (simp [*, errW_none, errW_some] <;> rfl), by repeat (first | (with_reducible first | exact HB.out | apply below_alloc | apply pw_below_drewN | apply below_drew1) | exact HB.out)⟩
                                · exact absurd (beq_iff_eq.mp c22b0) c23
                              · rw [if_neg c22] at H
                                have c22b0 : ((((rd_T48 l0 x11_4).f0).length : Int) == 0) = false := beq_eq_false_iff_ne.mpr c22
                                have c22b1 : ((((rd_T48 l0 x11_4).f0).length : Int) != 0) = true := bne_iff_ne.mpr c22
                                have c22b2 : ¬ (((rd_T48 l0 x11_4).f0) = []) := fun h_ => c22 (by rw [h_]; rfl)
                                replace H := Option.bind_eq_some_iff.mp H
                                obtain ⟨⟨t498, t499⟩, A240, H⟩ := H
                                replace H : (if t498 = true then (some ((rd_T48 l0 x11_4).f1, 0)) else (shuttleref12_When.l2 k4 l0 l2 (wrap64 (x11_4 + 1)))) = some (r1, r2) := H
                                have A24 := Aside0.mk A240
                                clear A240
                                by_cases c25 : t498 = true
                                · subst c25
                                  have H1 : (some ((rd_T48 l0 x11_4).f1, 0)) = some (r1, r2) := by rw [if_pos rfl] at H; exact H
                                  clear H
                                  have H := H1
                                  clear H1
                                  simp only [Option.some.injEq, Prod.mk.injEq] at H
                                  obtain ⟨rfl, rfl⟩ := H
                                  have p495 : 0 ≤ (x11_4 : Int) := of_decide_eq_true (by first | (with_reducible assumption) | assumption)
                                  have q495 : x11_4 < (l0.length : Int) := of_decide_eq_true (by first | (with_reducible assumption) | assumption)
                                  obtain ⟨ad495, A495_0, c495_0, e495, hx495_0, hx495_1, hl495_0, hi495_0⟩ := at_T48 HR0.out x11_4 p495 q495
                                  cases e495
                                  replace hx495_0 := (HB.out.cell (World.block_lt_of_cell? w _ hx495_0)).trans hx495_0
                                  replace hx495_1 := (HB.out.cell (World.block_lt_of_cell? w _ hx495_1)).trans hx495_1
                                  have HR495_0 := Aside0.mk hi495_0
                                  have HC495_0 := Aside0.mk hl495_0
                                  clear hi495_0 hl495_0
                                  replace p495 := eq_true p495
                                  replace q495 := eq_true q495
                                  have p497 : 0 ≤ (x11_4 : Int) := of_decide_eq_true (by first | (with_reducible assumption) | assumption)
                                  have q497 : x11_4 < (l0.length : Int) := of_decide_eq_true (by first | (with_reducible assumption) | assumption)
                                  obtain ⟨ad497, A497_0, c497_0, e497, hx497_0, hx497_1, hl497_0, hi497_0⟩ := at_T48 HR0.out x11_4 p497 q497
                                  obtain rfl : ad495 = ad497 := (by injection e497)
                                  replace hx497_0 := (HB.out.cell (World.block_lt_of_cell? w _ hx497_0)).trans hx497_0
                                  replace hx497_1 := (HB.out.cell (World.block_lt_of_cell? w _ hx497_1)).trans hx497_1
                                  have HR497_0 := Aside0.mk hi497_0
                                  have HC497_0 := Aside0.mk hl497_0
                                  clear hi497_0 hl497_0
                                  replace p497 := eq_true p497
                                  replace q497 := eq_true q497
                                  have ea_ := Option.some.inj (hx495_0.symm.trans hx497_0)
                                  injection ea_ with ea_ en_ ec_
                                  subst ea_
                                  subst ec_
                                  clear en_
                                  go_wp2_with (first | ((with_reducible refine gate_callee (f := 11) rfl ?_); refine goesL_ (some 86) rfl rfl Try.func11 (by kernel_rfl) rfl #[.slice A495_0 ((rd_T48 l0 x11_4).f0).length c495_0, .slice A2 l2.length c2] rfl (by (try simp only [List.map_toArray, List.map_cons, List.map_nil]); first | done | rfl | (simp only [List.length_drop, List.length_take]; rfl)) ?_; (with_reducible refine (shuttleref12_Eval.calls k4 _ _ ((rd_T48 l0 x11_4).f0) _ _ l2 true t499 _ ?side1 ?side2 ?side3 ?side4 A24.out).mono ?_); (case side1 => repeat (first | exact (Kd.C_below HR497_0.out HB.out) | (with_reducible refine Kd.C_alloc ?_ _) | (with_reducible refine Kd.C_drewN ?_ _) | (with_reducible refine Kd.C_drew ?_))); (case side2 => exact HC497_0.out); (case side3 => repeat (first | exact (Kd.C_below HR2.out HB.out) | (with_reducible refine Kd.C_alloc ?_ _) | (with_reducible refine Kd.C_drewN ?_ _) | (with_reducible refine Kd.C_drew ?_))); (case side4 => exact HC2.out); rintro e w26 ⟨rfl, hb⟩; refine ⟨_, rfl, ?_⟩; have n0_ := Aside0.mk (below_step (by repeat (first | (with_reducible first | exact HB.out | apply below_alloc | apply pw_below_drewN | apply below_drew1) | exact HB.out)) hb); clear HB; have HB := n0_; clear n0_; (try clear hb); (try clear hb2); (try clear hk); (try clear hi); have p500 : 0 ≤ (x11_4 : Int) := of_decide_eq_true (by first | (with_reducible assumption) | assumption); have q500 : x11_4 < (l0.length : Int) := of_decide_eq_true (by first | (with_reducible assumption) | assumption); obtain ⟨ad500, A500_0, c500_0, e500, hx500_0, hx500_1, hl500_0, hi500_0⟩ := at_T48 HR0.out x11_4 p500 q500; obtain rfl : ad495 = ad500 := (by injection e500); replace hx500_0 := (HB.out.cell (World.block_lt_of_cell? w _ hx500_0)).trans hx500_0; replace hx500_1 := (HB.out.cell (World.block_lt_of_cell? w _ hx500_1)).trans hx500_1; have HR500_0 := Aside0.mk hi500_0; have HC500_0 := Aside0.mk hl500_0; clear hi500_0 hl500_0; replace p500 := eq_true p500; replace q500 := eq_true q500))
                                  go_ret2
                                  exact ⟨by first | rfl | (simp [errW_none, errW_some] <;> rfl) | (simp [*, errW_none, errW_some] <;> rfl), by repeat (first | (with_reducible first | exact HB.out | apply below_alloc | apply pw_below_drewN | apply below_drew1) | exact HB.out)⟩
                                · replace c25 := Bool.eq_false_iff.mpr c25
                                  subst c25
                                  have H1 : (shuttleref12_When.l2 k4 l0 l2 (wrap64 (x11_4 + 1))) = some (r1, r2) := by rw [if_neg (show ¬ (false = true) by decide)] at H; exact H
                                  clear H
                                  have H := H1
                                  clear H1
                                  have H' := Aside0.mk H
                                  clear H
                                  have p495 : 0 ≤ (x11_4 : Int) := of_decide_eq_true (by first | (with_reducible assumption) | assumption)
                                  have q495 : x11_4 < (l0.length : Int) := of_decide_eq_true (by first | (with_reducible assumption) | assumption)
                                  obtain ⟨ad495, A495_0, c495_0, e495, hx495_0, hx495_1, hl495_0, hi495_0⟩ := at_T48 HR0.out x11_4 p495 q495
                                  cases e495
                                  replace hx495_0 := (HB.out.cell (World.block_lt_of_cell? w _ hx495_0)).trans hx495_0
                                  replace hx495_1 := (HB.out.cell (World.block_lt_of_cell? w _ hx495_1)).trans hx495_1
                                  have HR495_0 := Aside0.mk hi495_0
                                  have HC495_0 := Aside0.mk hl495_0
                                  clear hi495_0 hl495_0
                                  replace p495 := eq_true p495
                                  replace q495 := eq_true q495
                                  have p497 : 0 ≤ (x11_4 : Int) := of_decide_eq_true (by first | (with_reducible assumption) | assumption)
                                  have q497 : x11_4 < (l0.length : Int) := of_decide_eq_true (by first | (with_reducible assumption) | assumption)
                                  obtain ⟨ad497, A497_0, c497_0, e497, hx497_0, hx497_1, hl497_0, hi497_0⟩ := at_T48 HR0.out x11_4 p497 q497
                                  obtain rfl : ad495 = ad497 := (by injection e497)
                                  replace hx497_0 := (HB.out.cell (World.block_lt_of_cell? w _ hx497_0)).trans hx497_0
                                  replace hx497_1 := (HB.out.cell (World.block_lt_of_cell? w _ hx497_1)).trans hx497_1
                                  have HR497_0 := Aside0.mk hi497_0
                                  have HC497_0 := Aside0.mk hl497_0
                                  clear hi497_0 hl497_0
                                  replace p497 := eq_true p497
                                  replace q497 := eq_true q497
                                  have ea_ := Option.some.inj (hx495_0.symm.trans hx497_0)
                                  injection ea_ with ea_ en_ ec_
                                  subst ea_
                                  subst ec_
                                  clear en_
                                  go_wp2_with (first | ((with_reducible refine gate_callee (f := 11) rfl ?_); refine goesL_ (some 86) rfl rfl Try.func11 (by kernel_rfl) rfl #[.slice A495_0 ((rd_T48 l0 x11_4).f0).length c495_0, .slice A2 l2.length c2] rfl (by (try simp only [List.map_toArray, List.map_cons, List.map_nil]); first | done | rfl | (simp only [List.length_drop, List.length_take]; rfl)) ?_; (with_reducible refine (shuttleref12_Eval.calls k4 _ _ ((rd_T48 l0 x11_4).f0) _ _ l2 false t499 _ ?side1 ?side2 ?side3 ?side4 A24.out).mono ?_); (case side1 => repeat (first | exact (Kd.C_below HR497_0.out HB.out) | (with_reducible refine Kd.C_alloc ?_ _) | (with_reducible refine Kd.C_drewN ?_ _) | (with_reducible refine Kd.C_drew ?_))); (case side2 => exact HC497_0.out); (case side3 => repeat (first | exact (Kd.C_below HR2.out HB.out) | (with_reducible refine Kd.C_alloc ?_ _) | (with_reducible refine Kd.C_drewN ?_ _) | (with_reducible refine Kd.C_drew ?_))); (case side4 => exact HC2.out); rintro e w27 ⟨rfl, hb⟩; refine ⟨_, rfl, ?_⟩; have n0_ := Aside0.mk (below_step (by repeat (first | (with_reducible first | exact HB.out | apply below_alloc | apply pw_below_drewN | apply below_drew1) | exact HB.out)) hb); clear HB; have HB := n0_; clear n0_; (try clear hb); (try clear hb2); (try clear hk); (try clear hi)))
                                  go_roundg k4
                                  case measure => have := HK1.out; have := HJ10.out; have := HK3.out; have := HK4.out; omega
                                  case rel => exact ⟨(wrap64 (x11_4 + 1)), (by first | rfl | (simp; done) | (simp [*]; done)), H', ⟨by have := HK1.out; have := HJ10.out; have := HK3.out; have := HK4.out; omega⟩, ⟨by repeat (first | (with_reducible first | exact HB.out | apply below_alloc | apply pw_below_drewN | apply below_drew1) | exact HB.out)⟩⟩
                            · rw [if_neg c21] at H
                              exact absurd H (by simp)
                          · rw [if_neg c20] at H
                            have c20b0 : decide (x11_4 < (l0.length : Int)) = false := decide_eq_false c20
                            clear c20
                            simp only [Option.some.injEq, Prod.mk.injEq] at H
                            obtain ⟨rfl, rfl⟩ := H
                            go_wp2
                            go_ret2
                            exact ⟨by first | rfl | (simp [errW_none, errW_some] <;> rfl) | (simp [*, errW_none, errW_some] <;> rfl), by repeat (first | (with_reducible first | exact HB.out | apply below_alloc | apply pw_below_drewN | apply below_drew1) | exact HB.out)⟩

/-! ### shuttlelaw0_SameRules: function 27 -/
def shuttlelaw0_SameRules.l0 : Nat → List (S48) → List (S48) → Int → Option (Bool)
  | 0, _, _, _ => none
  | k + 1, x0, x1, x5 => if x5 < (x0.length : Int) then (if 0 ≤ x5 then (if x5 < (x1.length : Int) then (if ((rd_T48 x0 x5).f1) = ((rd_T48 x1 x5).f1) then ((shuttlelaw0_SameSteps.f k ((rd_T48 x0 x5).f0) ((rd_T48 x1 x5).f0)).bind fun t513 => (if t513 = true then (shuttlelaw0_SameRules.l0 k x0 x1 (wrap64 (x5 + 1))) else (some false))) else (some false)) else (none)) else (none)) else (some true)
def shuttlelaw0_SameRules.f (k : Nat) (l0 : List (S48)) (l1 : List (S48)) : Option (Bool) := if (l0.length : Int) = (l1.length : Int) then (shuttlelaw0_SameRules.l0 k l0 l1 0) else (some false)
set_option maxHeartbeats 8000000 in
set_option maxRecDepth 100000 in
theorem shuttlelaw0_SameRules.calls (k : Nat) (A0 : Option Addr) (c0 : Nat) (l0 : List (S48)) (A1 : Option Addr) (c1 : Nat) (l1 : List (S48)) (r : Bool) (w : World) (hr0 : Kd.C k48 w A0 l0.length l0) (hc0 : l0.length ≤ c0) (hr1 : Kd.C k48 w A1 l1.length l1) (hc1 : l1.length ≤ c1) (h : shuttlelaw0_SameRules.f k l0 l1 = some r) :
    Calls Try.prog 27 #[.slice A0 l0.length c0, .slice A1 l1.length c1] w fun e w' => e = .returned (.bool r) ∧ Drawn0 w w' := by
  have HR0 := Aside0.mk hr0
  have HC0 := Aside0.mk hc0
  clear hr0 hc0
  have HR1 := Aside0.mk hr1
  have HC1 := Aside0.mk hc1
  clear hr1 hc1
  have H : (if (l0.length : Int) = (l1.length : Int) then (shuttlelaw0_SameRules.l0 k l0 l1 0) else (some false)) = some r := h
  clear h
  by_cases c3 : (l0.length : Int) = (l1.length : Int)
  · rw [if_pos c3] at H
    have c3b0 : ((l0.length : Int) == (l1.length : Int)) = true := beq_iff_eq.mpr c3
    have c3b1 : ((l0.length : Int) != (l1.length : Int)) = false := bne_eq_false_iff_eq.mpr c3
    have c3b2 : (l0.length == l1.length) = true := by first | simpa using c3 | (simp at c3 ⊢; omega)
    clear c3
    have H' := Aside0.mk H
    clear H
    go_enter Try.func27, Try.ntmps27
    go_wp2
    repeat (go_quiet (fail); try go_wp2)
    go_loopg [5] k (fun kq v5 w' => ∃ (x5_1 : Int), v5 = .int .i64 x5_1 ∧ Aside0 (shuttlelaw0_SameRules.l0 kq l0 l1 x5_1 = some r) ∧ Aside0 (kq ≤ k) ∧ Drawn0 w w')
    case atStart => exact ⟨(0), (by first | rfl | (simp; done) | (simp [*]; done)), H', ⟨Nat.le_refl _⟩, by repeat (first | exact Drawn0.refl _ | apply Drawn0.step)⟩
    case round =>
      clear H'
      try clear c1
      try clear c2
      try clear p2
      try clear c3
      try clear c3b0
      try clear c3b1
      try clear c3b2
      obtain ⟨x5_1, rfl, HA, HK1, ⟨m1, rfl⟩⟩ := hrel
      cases gk with
      | zero => exact absurd HA.out (by simp [shuttlelaw0_SameRules.l0])
      | succ k1 =>
        have H := HA.out
        clear HA
        simp only [shuttlelaw0_SameRules.l0] at H
        by_cases c4 : x5_1 < (l0.length : Int)
        · rw [if_pos c4] at H
          have c4b0 : decide (x5_1 < (l0.length : Int)) = true := decide_eq_true c4
          clear c4
          by_cases c5 : 0 ≤ x5_1
          · rw [if_pos c5] at H
            have c5b0 : decide (0 ≤ x5_1) = true := decide_eq_true c5
            clear c5
            by_cases c6 : x5_1 < (l1.length : Int)
            · rw [if_pos c6] at H
              have c6b0 : decide (x5_1 < (l1.length : Int)) = true := decide_eq_true c6
              clear c6
              by_cases c7 : ((rd_T48 l0 x5_1).f1) = ((rd_T48 l1 x5_1).f1)
              · rw [if_pos c7] at H
                have c7b0 : (((rd_T48 l0 x5_1).f1) == ((rd_T48 l1 x5_1).f1)) = true := beq_iff_eq.mpr c7
                have c7b1 : (((rd_T48 l0 x5_1).f1) != ((rd_T48 l1 x5_1).f1)) = false := bne_eq_false_iff_eq.mpr c7
                clear c7
                replace H := Option.bind_eq_some_iff.mp H
                obtain ⟨t513, A80, H⟩ := H
                replace H : (if t513 = true then (shuttlelaw0_SameRules.l0 k1 l0 l1 (wrap64 (x5_1 + 1))) else (some false)) = some r := H
                have A8 := Aside0.mk A80
                clear A80
                by_cases c9 : t513 = true
                · subst c9
                  have H1 : (shuttlelaw0_SameRules.l0 k1 l0 l1 (wrap64 (x5_1 + 1))) = some r := by rw [if_pos rfl] at H; exact H
                  clear H
                  have H := H1
                  clear H1
                  have H' := Aside0.mk H
                  clear H
                  have p509 : 0 ≤ (x5_1 : Int) := of_decide_eq_true (by first | (with_reducible assumption) | assumption)
                  have q509 : x5_1 < (l0.length : Int) := of_decide_eq_true (by first | (with_reducible assumption) | assumption)
                  obtain ⟨ad509, A509_0, c509_0, e509, hx509_0, hx509_1, hl509_0, hi509_0⟩ := at_T48 HR0.out x5_1 p509 q509
                  cases e509
                  have HR509_0 := Aside0.mk hi509_0
                  have HC509_0 := Aside0.mk hl509_0
                  clear hi509_0 hl509_0
                  replace p509 := eq_true p509
                  replace q509 := eq_true q509
                  have p510 : 0 ≤ (x5_1 : Int) := of_decide_eq_true (by first | (with_reducible assumption) | assumption)
                  have q510 : x5_1 < (l1.length : Int) := of_decide_eq_true (by first | (with_reducible assumption) | assumption)
                  obtain ⟨ad510, A510_0, c510_0, e510, hx510_0, hx510_1, hl510_0, hi510_0⟩ := at_T48 HR1.out x5_1 p510 q510
                  cases e510
                  have HR510_0 := Aside0.mk hi510_0
                  have HC510_0 := Aside0.mk hl510_0
                  clear hi510_0 hl510_0
                  replace p510 := eq_true p510
                  replace q510 := eq_true q510
                  have p511 : 0 ≤ (x5_1 : Int) := of_decide_eq_true (by first | (with_reducible assumption) | assumption)
                  have q511 : x5_1 < (l0.length : Int) := of_decide_eq_true (by first | (with_reducible assumption) | assumption)
                  obtain ⟨ad511, A511_0, c511_0, e511, hx511_0, hx511_1, hl511_0, hi511_0⟩ := at_T48 HR0.out x5_1 p511 q511
                  obtain rfl : ad509 = ad511 := (by injection e511)
                  have HR511_0 := Aside0.mk hi511_0
                  have HC511_0 := Aside0.mk hl511_0
                  clear hi511_0 hl511_0
                  replace p511 := eq_true p511
                  replace q511 := eq_true q511
                  have ea_ := Option.some.inj (hx509_0.symm.trans hx511_0)
                  injection ea_ with ea_ en_ ec_
                  subst ea_
                  subst ec_
                  clear en_
                  have p512 : 0 ≤ (x5_1 : Int) := of_decide_eq_true (by first | (with_reducible assumption) | assumption)
                  have q512 : x5_1 < (l1.length : Int) := of_decide_eq_true (by first | (with_reducible assumption) | assumption)
                  obtain ⟨ad512, A512_0, c512_0, e512, hx512_0, hx512_1, hl512_0, hi512_0⟩ := at_T48 HR1.out x5_1 p512 q512
                  obtain rfl : ad510 = ad512 := (by injection e512)
                  have HR512_0 := Aside0.mk hi512_0
                  have HC512_0 := Aside0.mk hl512_0
                  clear hi512_0 hl512_0
                  replace p512 := eq_true p512
                  replace q512 := eq_true q512
                  have ea_ := Option.some.inj (hx510_0.symm.trans hx512_0)
                  injection ea_ with ea_ en_ ec_
                  subst ea_
                  subst ec_
                  clear en_
                  go_wp2_with (first | (go_at_call 22; (with_reducible refine (shuttlelaw0_SameSteps.calls k1 _ _ ((rd_T48 l0 x5_1).f0) _ _ ((rd_T48 l1 x5_1).f0) true _ ?side1 ?side2 ?side3 ?side4 A8.out).mono ?_); (case side1 => repeat (first | exact HR511_0.out | (with_reducible refine Kd.C_alloc ?_ _) | (with_reducible refine Kd.C_drewN ?_ _) | (with_reducible refine Kd.C_drew ?_))); (case side2 => exact HC511_0.out); (case side3 => repeat (first | exact HR512_0.out | (with_reducible refine Kd.C_alloc ?_ _) | (with_reducible refine Kd.C_drewN ?_ _) | (with_reducible refine Kd.C_drew ?_))); (case side4 => exact HC512_0.out); rintro e w' ⟨rfl, ⟨nd, rfl⟩⟩; (try first | exact ⟨rfl, _, World.drewN_drewN _ _ _⟩ | exact ⟨rfl, _, Eq.trans (World.drewN_drewN _ _ _) (congrArg (World.drewN _) (Nat.add_assoc _ _ _))⟩)))
                  repeat (go_quiet (first | (go_at_call 22; (with_reducible refine (shuttlelaw0_SameSteps.calls k1 _ _ ((rd_T48 l0 x5_1).f0) _ _ ((rd_T48 l1 x5_1).f0) true _ ?side1 ?side2 ?side3 ?side4 A8.out).mono ?_); (case side1 => repeat (first | exact HR511_0.out | (with_reducible refine Kd.C_alloc ?_ _) | (with_reducible refine Kd.C_drewN ?_ _) | (with_reducible refine Kd.C_drew ?_))); (case side2 => exact HC511_0.out); (case side3 => repeat (first | exact HR512_0.out | (with_reducible refine Kd.C_alloc ?_ _) | (with_reducible refine Kd.C_drewN ?_ _) | (with_reducible refine Kd.C_drew ?_))); (case side4 => exact HC512_0.out); rintro e w' ⟨rfl, ⟨nd, rfl⟩⟩; (try first | exact ⟨rfl, _, World.drewN_drewN _ _ _⟩ | exact ⟨rfl, _, Eq.trans (World.drewN_drewN _ _ _) (congrArg (World.drewN _) (Nat.add_assoc _ _ _))⟩))); try go_wp2_with (first | (go_at_call 22; (with_reducible refine (shuttlelaw0_SameSteps.calls k1 _ _ ((rd_T48 l0 x5_1).f0) _ _ ((rd_T48 l1 x5_1).f0) true _ ?side1 ?side2 ?side3 ?side4 A8.out).mono ?_); (case side1 => repeat (first | exact HR511_0.out | (with_reducible refine Kd.C_alloc ?_ _) | (with_reducible refine Kd.C_drewN ?_ _) | (with_reducible refine Kd.C_drew ?_))); (case side2 => exact HC511_0.out); (case side3 => repeat (first | exact HR512_0.out | (with_reducible refine Kd.C_alloc ?_ _) | (with_reducible refine Kd.C_drewN ?_ _) | (with_reducible refine Kd.C_drew ?_))); (case side4 => exact HC512_0.out); rintro e w' ⟨rfl, ⟨nd, rfl⟩⟩; (try first | exact ⟨rfl, _, World.drewN_drewN _ _ _⟩ | exact ⟨rfl, _, Eq.trans (World.drewN_drewN _ _ _) (congrArg (World.drewN _) (Nat.add_assoc _ _ _))⟩))))
                  go_roundg k1
                  case measure => have := HK1.out; omega
                  case rel => exact ⟨(wrap64 (x5_1 + 1)), (by first | rfl | (simp; done) | (simp [*]; done)), H', ⟨by have := HK1.out; omega⟩, by repeat (first | exact Drawn0.refl _ | apply Drawn0.step)⟩
                · replace c9 := Bool.eq_false_iff.mpr c9
                  subst c9
                  have H1 : (some false) = some r := by rw [if_neg (show ¬ (false = true) by decide)] at H; exact H
                  clear H
                  have H := H1
                  clear H1
                  obtain rfl := Option.some.inj H
                  have p509 : 0 ≤ (x5_1 : Int) := of_decide_eq_true (by first | (with_reducible assumption) | assumption)
                  have q509 : x5_1 < (l0.length : Int) := of_decide_eq_true (by first | (with_reducible assumption) | assumption)
                  obtain ⟨ad509, A509_0, c509_0, e509, hx509_0, hx509_1, hl509_0, hi509_0⟩ := at_T48 HR0.out x5_1 p509 q509
                  cases e509
                  have HR509_0 := Aside0.mk hi509_0
                  have HC509_0 := Aside0.mk hl509_0
                  clear hi509_0 hl509_0
                  replace p509 := eq_true p509
                  replace q509 := eq_true q509
                  have p510 : 0 ≤ (x5_1 : Int) := of_decide_eq_true (by first | (with_reducible assumption) | assumption)
                  have q510 : x5_1 < (l1.length : Int) := of_decide_eq_true (by first | (with_reducible assumption) | assumption)
                  obtain ⟨ad510, A510_0, c510_0, e510, hx510_0, hx510_1, hl510_0, hi510_0⟩ := at_T48 HR1.out x5_1 p510 q510
                  cases e510
                  have HR510_0 := Aside0.mk hi510_0
                  have HC510_0 := Aside0.mk hl510_0
                  clear hi510_0 hl510_0
                  replace p510 := eq_true p510
                  replace q510 := eq_true q510
                  have p511 : 0 ≤ (x5_1 : Int) := of_decide_eq_true (by first | (with_reducible assumption) | assumption)
                  have q511 : x5_1 < (l0.length : Int) := of_decide_eq_true (by first | (with_reducible assumption) | assumption)
                  obtain ⟨ad511, A511_0, c511_0, e511, hx511_0, hx511_1, hl511_0, hi511_0⟩ := at_T48 HR0.out x5_1 p511 q511
                  obtain rfl : ad509 = ad511 := (by injection e511)
                  have HR511_0 := Aside0.mk hi511_0
                  have HC511_0 := Aside0.mk hl511_0
                  clear hi511_0 hl511_0
                  replace p511 := eq_true p511
                  replace q511 := eq_true q511
                  have ea_ := Option.some.inj (hx509_0.symm.trans hx511_0)
                  injection ea_ with ea_ en_ ec_
                  subst ea_
                  subst ec_
                  clear en_
                  have p512 : 0 ≤ (x5_1 : Int) := of_decide_eq_true (by first | (with_reducible assumption) | assumption)
                  have q512 : x5_1 < (l1.length : Int) := of_decide_eq_true (by first | (with_reducible assumption) | assumption)
                  obtain ⟨ad512, A512_0, c512_0, e512, hx512_0, hx512_1, hl512_0, hi512_0⟩ := at_T48 HR1.out x5_1 p512 q512
                  obtain rfl : ad510 = ad512 := (by injection e512)
                  have HR512_0 := Aside0.mk hi512_0
                  have HC512_0 := Aside0.mk hl512_0
                  clear hi512_0 hl512_0
                  replace p512 := eq_true p512
                  replace q512 := eq_true q512
                  have ea_ := Option.some.inj (hx510_0.symm.trans hx512_0)
                  injection ea_ with ea_ en_ ec_
                  subst ea_
                  subst ec_
                  clear en_
                  go_wp2_with (first | (go_at_call 22; (with_reducible refine (shuttlelaw0_SameSteps.calls k1 _ _ ((rd_T48 l0 x5_1).f0) _ _ ((rd_T48 l1 x5_1).f0) false _ ?side1 ?side2 ?side3 ?side4 A8.out).mono ?_); (case side1 => repeat (first | exact HR511_0.out | (with_reducible refine Kd.C_alloc ?_ _) | (with_reducible refine Kd.C_drewN ?_ _) | (with_reducible refine Kd.C_drew ?_))); (case side2 => exact HC511_0.out); (case side3 => repeat (first | exact HR512_0.out | (with_reducible refine Kd.C_alloc ?_ _) | (with_reducible refine Kd.C_drewN ?_ _) | (with_reducible refine Kd.C_drew ?_))); (case side4 => exact HC512_0.out); rintro e w' ⟨rfl, ⟨nd, rfl⟩⟩; (try first | exact ⟨rfl, _, World.drewN_drewN _ _ _⟩ | exact ⟨rfl, _, Eq.trans (World.drewN_drewN _ _ _) (congrArg (World.drewN _) (Nat.add_assoc _ _ _))⟩)))
                  repeat (go_quiet (first | (go_at_call 22; (with_reducible refine (shuttlelaw0_SameSteps.calls k1 _ _ ((rd_T48 l0 x5_1).f0) _ _ ((rd_T48 l1 x5_1).f0) false _ ?side1 ?side2 ?side3 ?side4 A8.out).mono ?_); (case side1 => repeat (first | exact HR511_0.out | (with_reducible refine Kd.C_alloc ?_ _) | (with_reducible refine Kd.C_drewN ?_ _) | (with_reducible refine Kd.C_drew ?_))); (case side2 => exact HC511_0.out); (case side3 => repeat (first | exact HR512_0.out | (with_reducible refine Kd.C_alloc ?_ _) | (with_reducible refine Kd.C_drewN ?_ _) | (with_reducible refine Kd.C_drew ?_))); (case side4 => exact HC512_0.out); rintro e w' ⟨rfl, ⟨nd, rfl⟩⟩; (try first | exact ⟨rfl, _, World.drewN_drewN _ _ _⟩ | exact ⟨rfl, _, Eq.trans (World.drewN_drewN _ _ _) (congrArg (World.drewN _) (Nat.add_assoc _ _ _))⟩))); try go_wp2_with (first | (go_at_call 22; (with_reducible refine (shuttlelaw0_SameSteps.calls k1 _ _ ((rd_T48 l0 x5_1).f0) _ _ ((rd_T48 l1 x5_1).f0) false _ ?side1 ?side2 ?side3 ?side4 A8.out).mono ?_); (case side1 => repeat (first | exact HR511_0.out | (with_reducible refine Kd.C_alloc ?_ _) | (with_reducible refine Kd.C_drewN ?_ _) | (with_reducible refine Kd.C_drew ?_))); (case side2 => exact HC511_0.out); (case side3 => repeat (first | exact HR512_0.out | (with_reducible refine Kd.C_alloc ?_ _) | (with_reducible refine Kd.C_drewN ?_ _) | (with_reducible refine Kd.C_drew ?_))); (case side4 => exact HC512_0.out); rintro e w' ⟨rfl, ⟨nd, rfl⟩⟩; (try first | exact ⟨rfl, _, World.drewN_drewN _ _ _⟩ | exact ⟨rfl, _, Eq.trans (World.drewN_drewN _ _ _) (congrArg (World.drewN _) (Nat.add_assoc _ _ _))⟩))))
                  go_ret
                  exact ⟨by first | rfl | (simp; done) | (simp [*]; done), by repeat (first | exact Drawn0.refl _ | apply Drawn0.step)⟩
              · rw [if_neg c7] at H
                have c7b0 : (((rd_T48 l0 x5_1).f1) == ((rd_T48 l1 x5_1).f1)) = false := beq_eq_false_iff_ne.mpr c7
                have c7b1 : (((rd_T48 l0 x5_1).f1) != ((rd_T48 l1 x5_1).f1)) = true := bne_iff_ne.mpr c7
                obtain rfl := Option.some.inj H
                have p509 : 0 ≤ (x5_1 : Int) := of_decide_eq_true (by first | (with_reducible assumption) | assumption)
                have q509 : x5_1 < (l0.length : Int) := of_decide_eq_true (by first | (with_reducible assumption) | assumption)
                obtain ⟨ad509, A509_0, c509_0, e509, hx509_0, hx509_1, hl509_0, hi509_0⟩ := at_T48 HR0.out x5_1 p509 q509
                cases e509
                have HR509_0 := Aside0.mk hi509_0
                have HC509_0 := Aside0.mk hl509_0
                clear hi509_0 hl509_0
                replace p509 := eq_true p509
                replace q509 := eq_true q509
                have p510 : 0 ≤ (x5_1 : Int) := of_decide_eq_true (by first | (with_reducible assumption) | assumption)
                have q510 : x5_1 < (l1.length : Int) := of_decide_eq_true (by first | (with_reducible assumption) | assumption)
                obtain ⟨ad510, A510_0, c510_0, e510, hx510_0, hx510_1, hl510_0, hi510_0⟩ := at_T48 HR1.out x5_1 p510 q510
                cases e510
                have HR510_0 := Aside0.mk hi510_0
                have HC510_0 := Aside0.mk hl510_0
                clear hi510_0 hl510_0
                replace p510 := eq_true p510
                replace q510 := eq_true q510
                go_wp2
                repeat (go_quiet (fail); try go_wp2)
                go_ret
                exact ⟨by first | rfl | (simp; done) | (simp [*]; done), by repeat (first | exact Drawn0.refl _ | apply Drawn0.step)⟩
            · rw [if_neg c6] at H
              exact absurd H (by simp)
          · rw [if_neg c5] at H
            exact absurd H (by simp)
        · rw [if_neg c4] at H
          have c4b0 : decide (x5_1 < (l0.length : Int)) = false := decide_eq_false c4
          clear c4
          obtain rfl := Option.some.inj H
          go_wp2
          repeat (go_quiet (fail); try go_wp2)
          go_ret
          exact ⟨by first | rfl | (simp; done) | (simp [*]; done), by repeat (first | exact Drawn0.refl _ | apply Drawn0.step)⟩
  · rw [if_neg c3] at H
    have c3b0 : ((l0.length : Int) == (l1.length : Int)) = false := beq_eq_false_iff_ne.mpr c3
    have c3b1 : ((l0.length : Int) != (l1.length : Int)) = true := bne_iff_ne.mpr c3
    have c3b2 : (l0.length == l1.length) = false := by first | simpa using c3 | (simp at c3 ⊢; omega)
    obtain rfl := Option.some.inj H
    go_enter Try.func27, Try.ntmps27
    go_wp2
    repeat (go_quiet (fail); try go_wp2)
    go_ret
    exact ⟨by first | rfl | (simp; done) | (simp [*]; done), by repeat (first | exact Drawn0.refl _ | apply Drawn0.step)⟩

-- NOT PRINTED: function 5 (shuttlelaw12_RuleWhens)

end Go.Proofs.Ytinhlaiogkmkfaa.PA
