/- awake of chapter 12, over a Fold that is said of names and of equalities of texts alone. -/
import Derived.Test.YtinhlaiogkmkfaaQPAx0
import Derived.Test.YtinhlaiogkmkfaaQPAx3
import Derived.Test.YtinhlaiogkmkfaaQPAx6
import Derived.Test.YtinhlaiogkmkfaaQPAx7
import Derived.Test.YtinhlaiogkmkfaaQPAx8
namespace Go.Proofs.Ytinhlaiogkmkfaa.PA.K
open Go.RowKit Go.Proofs.YtinhlaiogkmkfaaW.PrintWords Go.Proofs.YtinhlaiogkmkfaaW.PrintLast Go.Proofs.YtinhlaiogkmkfaaW.PrintMore
attribute [local go_sem] max2_int min2_int max_two min_two max_three min_three max_four min_four   -- for this text's walks alone
set_option linter.unusedVariables false
set_option linter.unusedSimpArgs false
def rule_textsK.l0 : Nat → List (S66) → Bool → List (S66) → Int → Int → Int → ByteArray → Option ((List (S45)))
  | 0, _, _, _, _, _, _, _ => none
  | k + 1, x1, x5, x8, x9, x10, x170000, x170001 => if x10 < x9 then (if 0 ≤ x10 then (if x10 < (x8.length : Int) then (if x5 = true then ((rule_part_is.f ((rd_T66 x8 x10).f0) 1).bind fun t173 => (rule_textsK.l0 k x1 t173 x8 x9 (wrap64 (x10 + 1)) x170000 x170001)) else (rule_textsK.l0 k x1 false x8 x9 (wrap64 (x10 + 1)) x170000 x170001)) else (none)) else (none)) else (if x5 = true then ((rule_over.f k x170000 x170001 x1).bind fun t174 => ((rule_say.f t174 ([] : List (S56))).bind fun t177 => ((rule_truth.f t177).bind fun t178 => (some t178)))) else none)
def rule_textsK.f (k : Nat) (a0_0 : Int) (a0_1 : ByteArray) (l1 : List (S66)) : Option ((List (S45))) := rule_textsK.l0 k l1 true l1 (l1.length : Int) 0 a0_0 a0_1
set_option maxHeartbeats 8000000 in
set_option maxRecDepth 100000 in
theorem rule_textsK.calls (k : Nat) (a0_0 : Int) (a0_1 : ByteArray) (A1 : Option Addr) (c1 : Nat) (l1 : List (S66)) (r : List (S45)) (w : World) (hr1 : Kd.C k66 w A1 l1.length l1) (hc1 : l1.length ≤ c1) (h : rule_textsK.f k a0_0 a0_1 l1 = some r) :
    Calls Try.prog 42 #[.agg #[.int .i64 a0_0, .string a0_1], .slice A1 l1.length c1] w fun e w' => ∃ v0_ : Value, e = .returned (.agg #[v0_]) ∧ Kd.R k45 45 w' w.heap.size (fun _ => True) v0_ r ∧ Below w.heap.size w w' := by
  have hfld : ∀ (x0_ : Value) (w : World), (Instr.field 66 (.agg #[x0_]) 0).run Try.prog w = .ok (x0_) w := by intros; kernel_rfl
  have hu45 := Try.underlying45
  have hu66 := Try.underlying66
  have HR1 := Aside0.mk hr1
  have HC1 := Aside0.mk hc1
  clear hr1 hc1
  have HB := Aside0.mk (Below.refl w.heap.size w)
  have H : (rule_textsK.l0 k l1 true l1 (l1.length : Int) 0 a0_0 a0_1) = some r := h
  clear h
  have H' := Aside0.mk H
  clear H
  go_enter Try.func42, Try.ntmps42
  go_wp2_with (first | ((with_reducible refine gate_dst (N := 2) rfl ?_); refine box_event ?hg (N := 2) ?hd (cs := #[.int .i64 a0_0, .string a0_1]) (t := 45) ?hr ?_; (case hd => rfl); (case hg => rfl); (case hr => first | (go_simp; done) | (go_simp; rfl)); intro gb169 hg w3 hbox hb; have n0_ := Aside0.mk (below_step (by repeat (first | (with_reducible first | exact HB.out | apply below_alloc | apply pw_below_drewN | apply below_drew1) | exact HB.out)) hb); have n1_ := Aside0.mk (hbox); have n2_ := Aside0.mk ((by rw [hg]; exact (below_size (by repeat (first | (with_reducible first | exact HB.out | apply below_alloc | apply pw_below_drewN | apply below_drew1) | exact HB.out))) : w.heap.size ≤ gb169)); have n3_ := Aside0.mk ((by rw [hg]; exact (below_size (by repeat (first | (with_reducible first | exact HB.out | apply below_alloc | apply pw_below_drewN | apply below_drew1) | exact HB.out))) : w.heap.size ≤ gb169)); clear HB; have HB := n0_; have BK169 := n1_; have GW169 := n2_; have GE169 := n3_; clear n0_ n1_ n2_ n3_; clear hb hbox hg) | ((with_reducible refine gate_dst (N := 4) rfl ?_); refine box_event ?hg (N := 4) ?hd (cs := #[.slice none 0 0]) (t := 66) ?hr ?_; (case hd => rfl); (case hg => rfl); (case hr => first | (go_simp; done) | (go_simp; rfl)); intro gb170 hg w4 hbox hb; have n0_ := Aside0.mk (blk_below (g := gb169) (o := .cells #[.int .i64 a0_0, .string a0_1] 45 (0, 0)) (by (with_reducible repeat (first | refine blk_drewN ?_ _ | refine blk_drew ?_ | refine blk_alloc ?_ _)); exact BK169.out) hb); have n1_ := Aside0.mk (below_step (by repeat (first | (with_reducible first | exact HB.out | apply below_alloc | apply pw_below_drewN | apply below_drew1 | refine below_set ?_ GE169.out) | exact HB.out)) hb); have n2_ := Aside0.mk (hbox); have n3_ := Aside0.mk ((by rw [hg]; exact (below_size (by repeat (first | (with_reducible first | exact HB.out | apply below_alloc | apply pw_below_drewN | apply below_drew1 | refine below_set ?_ GE169.out) | exact HB.out))) : w.heap.size ≤ gb170)); have n4_ := Aside0.mk ((by rw [hg]; exact (below_size (by repeat (first | (with_reducible first | exact HB.out | apply below_alloc | apply pw_below_drewN | apply below_drew1 | refine below_set ?_ GE169.out) | exact HB.out))) : w.heap.size ≤ gb170)); have n5_ := Aside0.mk ((by rw [hg]; exact Nat.ne_of_lt (blk_lt (g := gb169) (o := .cells #[.int .i64 a0_0, .string a0_1] 45 (0, 0)) (by (with_reducible repeat (first | refine blk_drewN ?_ _ | refine blk_drew ?_ | refine blk_alloc ?_ _)); exact BK169.out)) : gb169 ≠ gb170)); have n6_ := Aside0.mk ((by rw [hg]; exact Nat.ne_of_gt (blk_lt (g := gb169) (o := .cells #[.int .i64 a0_0, .string a0_1] 45 (0, 0)) (by (with_reducible repeat (first | refine blk_drewN ?_ _ | refine blk_drew ?_ | refine blk_alloc ?_ _)); exact BK169.out)) : gb170 ≠ gb169)); clear BK169; clear HB; have BK169 := n0_; have HB := n1_; have BK170 := n2_; have GW170 := n3_; have GE170 := n4_; have NB169_170 := n5_; have NB170_169 := n6_; clear n0_ n1_ n2_ n3_ n4_ n5_ n6_; clear hb hbox hg))
  go_loopg [5, 10] k (fun kq v5 v10 w' => ∃ (x5_1 : Bool) (x10_1 : Int), v5 = .bool x5_1 ∧ v10 = .int .i64 x10_1 ∧ Aside0 (rule_textsK.l0 kq l1 x5_1 l1 (l1.length : Int) x10_1 a0_0 a0_1 = some r) ∧ Aside0 (kq ≤ k) ∧ Aside0 (w'.heap[gb169]? = some (.cells #[.int .i64 a0_0, .string a0_1] 45 (0, 0))) ∧ Aside0 (w'.heap[gb170]? = some (.cells #[(.slice none 0 0)] 66 (0, 0))) ∧ Aside0 (Below w.heap.size w w'))
  case atStart => exact ⟨(true), (0), (by first | rfl | (simp; done) | (simp [*]; done)), (by first | rfl | (simp; done) | (simp [*]; done)), H', ⟨Nat.le_refl _⟩, ⟨by (with_reducible repeat (first | refine blk_drewN ?_ _ | refine blk_drew ?_ | refine blk_alloc ?_ _)); exact BK169.out⟩, ⟨by (with_reducible repeat (first | refine blk_drewN ?_ _ | refine blk_drew ?_ | refine blk_alloc ?_ _)); exact BK170.out⟩, ⟨by repeat (first | (with_reducible first | exact HB.out | apply below_alloc | apply pw_below_drewN | apply below_drew1 | refine below_set ?_ GE169.out | refine below_set ?_ GE170.out) | exact HB.out)⟩⟩
  case round =>
    clear H'
    try clear c1
    try clear p2
    try clear c4
    obtain ⟨x5_1, x10_1, rfl, rfl, HA, HK1, BK169, BK170, HB⟩ := hrel
    cases gk with
    | zero => exact absurd HA.out (by simp [rule_textsK.l0])
    | succ k1 =>
      have H := HA.out
      clear HA
      simp only [rule_textsK.l0] at H
      by_cases c5 : x10_1 < (l1.length : Int)
      · rw [if_pos c5] at H
        have c5b0 : decide (x10_1 < (l1.length : Int)) = true := decide_eq_true c5
        clear c5
        by_cases c6 : 0 ≤ x10_1
        · rw [if_pos c6] at H
          have c6b0 : decide (0 ≤ x10_1) = true := decide_eq_true c6
          clear c6
          by_cases c7 : x10_1 < (l1.length : Int)
          · rw [if_pos c7] at H
            have c7b0 : decide (x10_1 < (l1.length : Int)) = true := decide_eq_true c7
            clear c7
            by_cases c8 : x5_1 = true
            · subst c8
              have H1 : ((rule_part_is.f ((rd_T66 l1 x10_1).f0) 1).bind fun t173 => (rule_textsK.l0 k1 l1 t173 l1 (l1.length : Int) (wrap64 (x10_1 + 1)) a0_0 a0_1)) = some r := by rw [if_pos rfl] at H; exact H
              clear H
              have H := H1
              clear H1
              replace H := Option.bind_eq_some_iff.mp H
              obtain ⟨t173, A90, H⟩ := H
              replace H : (rule_textsK.l0 k1 l1 t173 l1 (l1.length : Int) (wrap64 (x10_1 + 1)) a0_0 a0_1) = some r := H
              have A9 := Aside0.mk A90
              clear A90
              have H' := Aside0.mk H
              clear H
              have p171 : 0 ≤ (x10_1 : Int) := of_decide_eq_true (by first | (with_reducible assumption) | assumption)
              have q171 : x10_1 < (l1.length : Int) := of_decide_eq_true (by first | (with_reducible assumption) | assumption)
              obtain ⟨ad171, A171_0, c171_0, e171, hx171_0, hl171_0, hi171_0⟩ := at_T66 HR1.out x10_1 p171 q171
              cases e171
              replace hx171_0 := (HB.out.cell (World.block_lt_of_cell? w _ hx171_0)).trans hx171_0
              have HR171_0 := Aside0.mk hi171_0
              have HC171_0 := Aside0.mk hl171_0
              clear hi171_0 hl171_0
              replace p171 := eq_true p171
              replace q171 := eq_true q171
              go_wp2_with (first | ((with_reducible refine gate_dst (N := 7) rfl ?_); refine box_event ?hg (N := 7) ?hd (cs := #[.slice none 0 0]) (t := 66) ?hr ?_; (case hd => rfl); (case hg => rfl); (case hr => first | (go_simp; done) | (go_simp; rfl)); intro gb172 hg w10 hbox hb; have n0_ := Aside0.mk (blk_below (g := gb169) (o := .cells #[.int .i64 a0_0, .string a0_1] 45 (0, 0)) (by (with_reducible repeat (first | refine blk_drewN ?_ _ | refine blk_drew ?_ | refine blk_alloc ?_ _)); exact BK169.out) hb); have n1_ := Aside0.mk (blk_below (g := gb170) (o := .cells #[.slice none 0 0] 66 (0, 0)) (by (with_reducible repeat (first | refine blk_drewN ?_ _ | refine blk_drew ?_ | refine blk_alloc ?_ _)); exact BK170.out) hb); have n2_ := Aside0.mk (below_step (by repeat (first | (with_reducible first | exact HB.out | apply below_alloc | apply pw_below_drewN | apply below_drew1 | refine below_set ?_ GE169.out | refine below_set ?_ GE170.out) | exact HB.out)) hb); have n3_ := Aside0.mk (hbox); have n4_ := Aside0.mk ((by rw [hg]; exact (below_size (by repeat (first | (with_reducible first | exact HB.out | apply below_alloc | apply pw_below_drewN | apply below_drew1 | refine below_set ?_ GE169.out | refine below_set ?_ GE170.out) | exact HB.out))) : w.heap.size ≤ gb172)); have n5_ := Aside0.mk ((by rw [hg]; exact (below_size (by repeat (first | (with_reducible first | exact HB.out | apply below_alloc | apply pw_below_drewN | apply below_drew1 | refine below_set ?_ GE169.out | refine below_set ?_ GE170.out) | exact HB.out))) : w.heap.size ≤ gb172)); have n6_ := Aside0.mk ((by rw [hg]; exact Nat.ne_of_lt (blk_lt (g := gb169) (o := .cells #[.int .i64 a0_0, .string a0_1] 45 (0, 0)) (by (with_reducible repeat (first | refine blk_drewN ?_ _ | refine blk_drew ?_ | refine blk_alloc ?_ _)); exact BK169.out)) : gb169 ≠ gb172)); have n7_ := Aside0.mk ((by rw [hg]; exact Nat.ne_of_gt (blk_lt (g := gb169) (o := .cells #[.int .i64 a0_0, .string a0_1] 45 (0, 0)) (by (with_reducible repeat (first | refine blk_drewN ?_ _ | refine blk_drew ?_ | refine blk_alloc ?_ _)); exact BK169.out)) : gb172 ≠ gb169)); have n8_ := Aside0.mk ((by rw [hg]; exact Nat.ne_of_lt (blk_lt (g := gb170) (o := .cells #[.slice none 0 0] 66 (0, 0)) (by (with_reducible repeat (first | refine blk_drewN ?_ _ | refine blk_drew ?_ | refine blk_alloc ?_ _)); exact BK170.out)) : gb170 ≠ gb172)); have n9_ := Aside0.mk ((by rw [hg]; exact Nat.ne_of_gt (blk_lt (g := gb170) (o := .cells #[.slice none 0 0] 66 (0, 0)) (by (with_reducible repeat (first | refine blk_drewN ?_ _ | refine blk_drew ?_ | refine blk_alloc ?_ _)); exact BK170.out)) : gb172 ≠ gb170)); clear BK169; clear BK170; clear HB; have BK169 := n0_; have BK170 := n1_; have HB := n2_; have BK172 := n3_; have GW172 := n4_; have GE172 := n5_; have NB169_172 := n6_; have NB172_169 := n7_; have NB170_172 := n8_; have NB172_170 := n9_; clear n0_ n1_ n2_ n3_ n4_ n5_ n6_ n7_ n8_ n9_; clear hb hbox hg; have hnb11 := NB172_169.out; have hnc11 := NB169_172.out; have hnb12 := NB172_170.out; have hnc12 := NB170_172.out; have hcz13_0 : w10.cell? ⟨gb172, 0, none⟩ = some (.slice none 0 0) := (blk_cell BK172.out 0).trans rfl; have hfz13_0 := blk_frozen BK172.out 0) | (go_at_call 58; (with_reducible refine (rule_part_is.calls _ _ ((rd_T66 l1 x10_1).f0) 1 t173 _ ?side1 ?side2 A9.out).mono ?_); (case side1 => exact Kd.C_below HR171_0.out (by repeat (first | (with_reducible first | exact HB.out | apply below_alloc | apply pw_below_drewN | apply below_drew1 | refine below_set ?_ GE169.out | refine below_set ?_ GE170.out | refine below_set ?_ GE172.out) | exact HB.out))); (case side2 => exact HC171_0.out); rintro e w14 ⟨rfl, hb⟩; have n0_ := Aside0.mk (blk_below (g := gb169) (o := .cells #[.int .i64 a0_0, .string a0_1] 45 (0, 0)) (by (with_reducible repeat (first | refine blk_drewN ?_ _ | refine blk_drew ?_ | refine blk_alloc ?_ _)); refine blk_far ?_ NB169_172.out _; (with_reducible repeat (first | refine blk_drewN ?_ _ | refine blk_drew ?_ | refine blk_alloc ?_ _)); exact BK169.out) hb); have n1_ := Aside0.mk (blk_below (g := gb170) (o := .cells #[.slice none 0 0] 66 (0, 0)) (by (with_reducible repeat (first | refine blk_drewN ?_ _ | refine blk_drew ?_ | refine blk_alloc ?_ _)); refine blk_far ?_ NB170_172.out _; (with_reducible repeat (first | refine blk_drewN ?_ _ | refine blk_drew ?_ | refine blk_alloc ?_ _)); exact BK170.out) hb); have n2_ := Aside0.mk (blk_below (g := gb172) (o := .cells #[.slice A171_0 ((rd_T66 l1 x10_1).f0).length c171_0] 66 (0, 0)) (by (with_reducible repeat (first | refine blk_drewN ?_ _ | refine blk_drew ?_ | refine blk_alloc ?_ _)); refine blk_put (cs := #[.slice none 0 0]) ?_ 0 _ rfl; (with_reducible repeat (first | refine blk_drewN ?_ _ | refine blk_drew ?_ | refine blk_alloc ?_ _)); exact BK172.out) hb); have n3_ := Aside0.mk (below_step (by repeat (first | (with_reducible first | exact HB.out | apply below_alloc | apply pw_below_drewN | apply below_drew1 | refine below_set ?_ GE169.out | refine below_set ?_ GE170.out | refine below_set ?_ GE172.out) | exact HB.out)) hb); clear BK169; clear BK170; clear BK172; clear HB; have BK169 := n0_; have BK170 := n1_; have BK172 := n2_; have HB := n3_; clear n0_ n1_ n2_ n3_; (try clear hb); (try clear hb2); (try clear hk); (try clear hi)))
              go_roundg k1
              case measure => have := HK1.out; omega
              case rel => exact ⟨(t173), (wrap64 (x10_1 + 1)), (by first | rfl | (simp; done) | (simp [*]; done)), (by first | rfl | (simp; done) | (simp [*]; done)), H', ⟨by have := HK1.out; omega⟩, ⟨by (with_reducible repeat (first | refine blk_drewN ?_ _ | refine blk_drew ?_ | refine blk_alloc ?_ _)); exact BK169.out⟩, ⟨by (with_reducible repeat (first | refine blk_drewN ?_ _ | refine blk_drew ?_ | refine blk_alloc ?_ _)); exact BK170.out⟩, ⟨by repeat (first | (with_reducible first | exact HB.out | apply below_alloc | apply pw_below_drewN | apply below_drew1 | refine below_set ?_ GE169.out | refine below_set ?_ GE170.out | refine below_set ?_ GE172.out) | exact HB.out)⟩⟩
            · replace c8 := Bool.eq_false_iff.mpr c8
              subst c8
              have H1 : (rule_textsK.l0 k1 l1 false l1 (l1.length : Int) (wrap64 (x10_1 + 1)) a0_0 a0_1) = some r := by rw [if_neg (show ¬ (false = true) by decide)] at H; exact H
              clear H
              have H := H1
              clear H1
              have H' := Aside0.mk H
              clear H
              have p171 : 0 ≤ (x10_1 : Int) := of_decide_eq_true (by first | (with_reducible assumption) | assumption)
              have q171 : x10_1 < (l1.length : Int) := of_decide_eq_true (by first | (with_reducible assumption) | assumption)
              obtain ⟨ad171, A171_0, c171_0, e171, hx171_0, hl171_0, hi171_0⟩ := at_T66 HR1.out x10_1 p171 q171
              cases e171
              replace hx171_0 := (HB.out.cell (World.block_lt_of_cell? w _ hx171_0)).trans hx171_0
              have HR171_0 := Aside0.mk hi171_0
              have HC171_0 := Aside0.mk hl171_0
              clear hi171_0 hl171_0
              replace p171 := eq_true p171
              replace q171 := eq_true q171
              go_wp2_with (first | ((with_reducible refine gate_dst (N := 7) rfl ?_); refine box_event ?hg (N := 7) ?hd (cs := #[.slice none 0 0]) (t := 66) ?hr ?_; (case hd => rfl); (case hg => rfl); (case hr => first | (go_simp; done) | (go_simp; rfl)); intro gb172 hg w15 hbox hb; have n0_ := Aside0.mk (blk_below (g := gb169) (o := .cells #[.int .i64 a0_0, .string a0_1] 45 (0, 0)) (by (with_reducible repeat (first | refine blk_drewN ?_ _ | refine blk_drew ?_ | refine blk_alloc ?_ _)); exact BK169.out) hb); have n1_ := Aside0.mk (blk_below (g := gb170) (o := .cells #[.slice none 0 0] 66 (0, 0)) (by (with_reducible repeat (first | refine blk_drewN ?_ _ | refine blk_drew ?_ | refine blk_alloc ?_ _)); exact BK170.out) hb); have n2_ := Aside0.mk (below_step (by repeat (first | (with_reducible first | exact HB.out | apply below_alloc | apply pw_below_drewN | apply below_drew1 | refine below_set ?_ GE169.out | refine below_set ?_ GE170.out) | exact HB.out)) hb); have n3_ := Aside0.mk (hbox); have n4_ := Aside0.mk ((by rw [hg]; exact (below_size (by repeat (first | (with_reducible first | exact HB.out | apply below_alloc | apply pw_below_drewN | apply below_drew1 | refine below_set ?_ GE169.out | refine below_set ?_ GE170.out) | exact HB.out))) : w.heap.size ≤ gb172)); have n5_ := Aside0.mk ((by rw [hg]; exact (below_size (by repeat (first | (with_reducible first | exact HB.out | apply below_alloc | apply pw_below_drewN | apply below_drew1 | refine below_set ?_ GE169.out | refine below_set ?_ GE170.out) | exact HB.out))) : w.heap.size ≤ gb172)); have n6_ := Aside0.mk ((by rw [hg]; exact Nat.ne_of_lt (blk_lt (g := gb169) (o := .cells #[.int .i64 a0_0, .string a0_1] 45 (0, 0)) (by (with_reducible repeat (first | refine blk_drewN ?_ _ | refine blk_drew ?_ | refine blk_alloc ?_ _)); exact BK169.out)) : gb169 ≠ gb172)); have n7_ := Aside0.mk ((by rw [hg]; exact Nat.ne_of_gt (blk_lt (g := gb169) (o := .cells #[.int .i64 a0_0, .string a0_1] 45 (0, 0)) (by (with_reducible repeat (first | refine blk_drewN ?_ _ | refine blk_drew ?_ | refine blk_alloc ?_ _)); exact BK169.out)) : gb172 ≠ gb169)); have n8_ := Aside0.mk ((by rw [hg]; exact Nat.ne_of_lt (blk_lt (g := gb170) (o := .cells #[.slice none 0 0] 66 (0, 0)) (by (with_reducible repeat (first | refine blk_drewN ?_ _ | refine blk_drew ?_ | refine blk_alloc ?_ _)); exact BK170.out)) : gb170 ≠ gb172)); have n9_ := Aside0.mk ((by rw [hg]; exact Nat.ne_of_gt (blk_lt (g := gb170) (o := .cells #[.slice none 0 0] 66 (0, 0)) (by (with_reducible repeat (first | refine blk_drewN ?_ _ | refine blk_drew ?_ | refine blk_alloc ?_ _)); exact BK170.out)) : gb172 ≠ gb170)); clear BK169; clear BK170; clear HB; have BK169 := n0_; have BK170 := n1_; have HB := n2_; have BK172 := n3_; have GW172 := n4_; have GE172 := n5_; have NB169_172 := n6_; have NB172_169 := n7_; have NB170_172 := n8_; have NB172_170 := n9_; clear n0_ n1_ n2_ n3_ n4_ n5_ n6_ n7_ n8_ n9_; clear hb hbox hg; have hnb16 := NB172_169.out; have hnc16 := NB169_172.out; have hnb17 := NB172_170.out; have hnc17 := NB170_172.out; have hcz18_0 : w15.cell? ⟨gb172, 0, none⟩ = some (.slice none 0 0) := (blk_cell BK172.out 0).trans rfl; have hfz18_0 := blk_frozen BK172.out 0))
              go_roundg k1
              case measure => have := HK1.out; omega
              case rel => exact ⟨(false), (wrap64 (x10_1 + 1)), (by first | rfl | (simp; done) | (simp [*]; done)), (by first | rfl | (simp; done) | (simp [*]; done)), H', ⟨by have := HK1.out; omega⟩, ⟨by (with_reducible repeat (first | refine blk_drewN ?_ _ | refine blk_drew ?_ | refine blk_alloc ?_ _)); refine blk_far ?_ NB169_172.out _; (with_reducible repeat (first | refine blk_drewN ?_ _ | refine blk_drew ?_ | refine blk_alloc ?_ _)); exact BK169.out⟩, ⟨by (with_reducible repeat (first | refine blk_drewN ?_ _ | refine blk_drew ?_ | refine blk_alloc ?_ _)); refine blk_far ?_ NB170_172.out _; (with_reducible repeat (first | refine blk_drewN ?_ _ | refine blk_drew ?_ | refine blk_alloc ?_ _)); exact BK170.out⟩, ⟨by repeat (first | (with_reducible first | exact HB.out | apply below_alloc | apply pw_below_drewN | apply below_drew1 | refine below_set ?_ GE169.out | refine below_set ?_ GE170.out | refine below_set ?_ GE172.out) | exact HB.out)⟩⟩
          · rw [if_neg c7] at H
            exact absurd H (by simp)
        · rw [if_neg c6] at H
          exact absurd H (by simp)
      · rw [if_neg c5] at H
        have c5b0 : decide (x10_1 < (l1.length : Int)) = false := decide_eq_false c5
        clear c5
        by_cases c19 : x5_1 = true
        · subst c19
          have H1 : ((rule_over.f k1 a0_0 a0_1 l1).bind fun t174 => ((rule_say.f t174 ([] : List (S56))).bind fun t177 => ((rule_truth.f t177).bind fun t178 => (some t178)))) = some r := by rw [if_pos rfl] at H; exact H
          clear H
          have H := H1
          clear H1
          replace H := Option.bind_eq_some_iff.mp H
          obtain ⟨t174, A200, H⟩ := H
          replace H : ((rule_say.f t174 ([] : List (S56))).bind fun t177 => ((rule_truth.f t177).bind fun t178 => (some t178))) = some r := H
          have A20 := Aside0.mk A200
          clear A200
          replace H := Option.bind_eq_some_iff.mp H
          obtain ⟨t177, A210, H⟩ := H
          replace H : ((rule_truth.f t177).bind fun t178 => (some t178)) = some r := H
          have A21 := Aside0.mk A210
          clear A210
          replace H := Option.bind_eq_some_iff.mp H
          obtain ⟨t178, A220, H⟩ := H
          replace H : (some t178) = some r := H
          have A22 := Aside0.mk A220
          clear A220
          obtain rfl := Option.some.inj H
          have hnb23 := NB169_170.out
          have hnc23 := NB170_169.out
          have hcz24_0 : wr.cell? ⟨gb169, 0, none⟩ = some (.int .i64 a0_0) := (blk_cell BK169.out 0).trans rfl
          have hcz24_1 : wr.cell? ⟨gb169, 1, none⟩ = some (.string a0_1) := (blk_cell BK169.out 1).trans rfl
          have hfz24_0 := blk_frozen BK169.out 0
          have hfz24_1 := blk_frozen BK169.out 1
          go_wp2_with (first | ((with_reducible refine gate_callee (f := 61) rfl ?_); refine goesL_ (some 23) rfl rfl Try.func61 (by kernel_rfl) rfl #[.agg #[.int .i64 a0_0, .string a0_1], .slice A1 l1.length c1] rfl (by (try simp only [List.map_toArray, List.map_cons, List.map_nil]); first | done | rfl | (simp only [List.length_drop, List.length_take]; rfl)) ?_; (with_reducible refine (rule_over.calls k1 a0_0 a0_1 _ _ l1 t174 _ ?side1 ?side2 A20.out).mono ?_); (case side1 => repeat (first | exact (Kd.C_below HR1.out HB.out) | (with_reducible refine Kd.C_alloc ?_ _) | (with_reducible refine Kd.C_drewN ?_ _) | (with_reducible refine Kd.C_drew ?_))); (case side2 => exact HC1.out); rintro e w25 ⟨v175, rfl, ho0, hb⟩; refine ⟨_, rfl, ?_⟩; have n0_ := Aside0.mk (Kd.R_lower (Kd.R_newB ho0 (g := gb169) (o := .cells #[.int .i64 a0_0, .string a0_1] 45 (0, 0)) (by (with_reducible repeat (first | refine blk_drewN ?_ _ | refine blk_drew ?_ | refine blk_alloc ?_ _)); exact BK169.out)) (below_size (by repeat (first | (with_reducible first | exact HB.out | apply below_alloc | apply pw_below_drewN | apply below_drew1 | refine below_set ?_ GE169.out | refine below_set ?_ GE170.out) | exact HB.out)))); have n1_ := Aside0.mk (blk_below (g := gb169) (o := .cells #[.int .i64 a0_0, .string a0_1] 45 (0, 0)) (by (with_reducible repeat (first | refine blk_drewN ?_ _ | refine blk_drew ?_ | refine blk_alloc ?_ _)); exact BK169.out) hb); have n2_ := Aside0.mk (blk_below (g := gb170) (o := .cells #[.slice none 0 0] 66 (0, 0)) (by (with_reducible repeat (first | refine blk_drewN ?_ _ | refine blk_drew ?_ | refine blk_alloc ?_ _)); exact BK170.out) hb); have n3_ := Aside0.mk (below_step (by repeat (first | (with_reducible first | exact HB.out | apply below_alloc | apply pw_below_drewN | apply below_drew1 | refine below_set ?_ GE169.out | refine below_set ?_ GE170.out) | exact HB.out)) hb); clear BK169; clear BK170; clear HB; have HO176 := n0_; have BK169 := n1_; have BK170 := n2_; have HB := n3_; clear n0_ n1_ n2_ n3_; (try clear hb); (try clear hb2); (try clear hk); (try clear hi); (try clear ho0); obtain ⟨Ao26, co26, eo26⟩ := Kd.R_slice HO176.out; subst eo26) | ((with_reducible refine gate_callee (f := 35) rfl ?_); refine goesL_ (some 25) rfl rfl Try.func35 (by kernel_rfl) rfl #[.slice Ao26 t174.length co26, .slice none 0 0] rfl (by (try simp only [List.map_toArray, List.map_cons, List.map_nil]); first | done | rfl | (simp only [List.length_drop, List.length_take]; rfl)) ?_; (refine (rule_say.calls _ _ t174 _ _ ([] : List (S56)) t177 _ ?side1 ?side2 ?side3 ?side4 A21.out).mono ?_); (case side1 => repeat (first | exact (Kd.R_reads' HO176.out).2.2 | (with_reducible refine Kd.C_alloc ?_ _) | (with_reducible refine Kd.C_drewN ?_ _) | (with_reducible refine Kd.C_drew ?_))); (case side2 => exact (Kd.R_reads' HO176.out).2.1); (case side3 => exact Kd.C_nil _ _); (case side4 => exact Nat.le_refl _); rintro e w27 ⟨rfl, hb⟩; refine ⟨_, rfl, ?_⟩; have n0_ := Aside0.mk (Kd.R_below (by (with_reducible repeat (first | apply Kd.R_alloc | apply Kd.R_drewN | apply Kd.R_drew)); exact HO176.out) hb); have n1_ := Aside0.mk (blk_below (g := gb169) (o := .cells #[.int .i64 a0_0, .string a0_1] 45 (0, 0)) (by (with_reducible repeat (first | refine blk_drewN ?_ _ | refine blk_drew ?_ | refine blk_alloc ?_ _)); exact BK169.out) hb); have n2_ := Aside0.mk (blk_below (g := gb170) (o := .cells #[.slice none 0 0] 66 (0, 0)) (by (with_reducible repeat (first | refine blk_drewN ?_ _ | refine blk_drew ?_ | refine blk_alloc ?_ _)); exact BK170.out) hb); have n3_ := Aside0.mk (below_step (by repeat (first | (with_reducible first | exact HB.out | apply below_alloc | apply pw_below_drewN | apply below_drew1 | refine below_set ?_ GE169.out | refine below_set ?_ GE170.out) | exact HB.out)) hb); clear HO176; clear BK169; clear BK170; clear HB; have HO176 := n0_; have BK169 := n1_; have BK170 := n2_; have HB := n3_; clear n0_ n1_ n2_ n3_; (try clear hb); (try clear hb2); (try clear hk); (try clear hi)) | ((with_reducible refine gate_callee (f := 59) rfl ?_); refine goesL_ (some 26) rfl rfl Try.func59 (by kernel_rfl) rfl #[.bool t177] rfl (by (try simp only [List.map_toArray, List.map_cons, List.map_nil]); first | done | rfl | (simp only [List.length_drop, List.length_take]; rfl)) ?_; (with_reducible refine (rule_truth.calls t177 t178 _ A22.out).mono ?_); rintro e w28 ⟨v179, rfl, ho0, hb⟩; refine ⟨_, rfl, ?_⟩; have n0_ := Aside0.mk (Kd.R_elder' (by (with_reducible repeat (first | apply Kd.R_alloc | apply Kd.R_drewN | apply Kd.R_drew)); exact HO176.out) (Kd.R_base ho0) hb); have n1_ := Aside0.mk (Kd.R_lower (Kd.R_newB (Kd.R_new' ho0 (Kd.R_lt (by (with_reducible repeat (first | apply Kd.R_alloc | apply Kd.R_drewN | apply Kd.R_drew)); exact HO176.out))) (g := gb169) (o := .cells #[.int .i64 a0_0, .string a0_1] 45 (0, 0)) (by (with_reducible repeat (first | refine blk_drewN ?_ _ | refine blk_drew ?_ | refine blk_alloc ?_ _)); exact BK169.out)) (below_size (by repeat (first | (with_reducible first | exact HB.out | apply below_alloc | apply pw_below_drewN | apply below_drew1 | refine below_set ?_ GE169.out | refine below_set ?_ GE170.out) | exact HB.out)))); have n2_ := Aside0.mk (blk_below (g := gb169) (o := .cells #[.int .i64 a0_0, .string a0_1] 45 (0, 0)) (by (with_reducible repeat (first | refine blk_drewN ?_ _ | refine blk_drew ?_ | refine blk_alloc ?_ _)); exact BK169.out) hb); have n3_ := Aside0.mk (blk_below (g := gb170) (o := .cells #[.slice none 0 0] 66 (0, 0)) (by (with_reducible repeat (first | refine blk_drewN ?_ _ | refine blk_drew ?_ | refine blk_alloc ?_ _)); exact BK170.out) hb); have n4_ := Aside0.mk (below_step (by repeat (first | (with_reducible first | exact HB.out | apply below_alloc | apply pw_below_drewN | apply below_drew1 | refine below_set ?_ GE169.out | refine below_set ?_ GE170.out) | exact HB.out)) hb); clear HO176; clear BK169; clear BK170; clear HB; have HO176 := n0_; have HO180 := n1_; have BK169 := n2_; have BK170 := n3_; have HB := n4_; clear n0_ n1_ n2_ n3_ n4_; (try clear hb); (try clear hb2); (try clear hk); (try clear hi); (try clear ho0); obtain ⟨Ao29, co29, eo29⟩ := Kd.R_slice HO180.out; subst eo29; have hcz30_0 : w28.cell? ⟨gb170, 0, none⟩ = some (.slice none 0 0) := (blk_cell BK170.out 0).trans rfl; have hfz30_0 := blk_frozen BK170.out 0))
          refine bodyPost_ret (results_cell_row rfl _ _ gb170 66 #[.slice Ao29 t178.length co29] (0, 0) _ rfl (by (with_reducible repeat (first | refine blk_drewN ?_ _ | refine blk_drew ?_ | refine blk_alloc ?_ _)); refine blk_put (cs := #[.slice none 0 0]) ?_ 0 _ rfl; (with_reducible repeat (first | refine blk_drewN ?_ _ | refine blk_drew ?_ | refine blk_alloc ?_ _)); exact BK170.out) Try.underlying66 rfl (by kernel_rfl)) rfl ?_
          exact ⟨_, by first | rfl | (simp [errW_none, errW_some] <;> rfl) | (simp [*, errW_none, errW_some] <;> rfl), by (with_reducible repeat (first | apply Kd.R_alloc | apply Kd.R_drewN | apply Kd.R_drew)); exact Kd.R_mono (Kd.R_far (p := ⟨gb170, 0, none⟩) (Kd.R_types HO180.out BK170.out (by decide)) (fun _ hk => hk.2) (.slice Ao29 t178.length co29)) (fun _ hk => trivial), by repeat (first | (with_reducible first | exact HB.out | apply below_alloc | apply pw_below_drewN | apply below_drew1 | refine below_set ?_ GE169.out | refine below_set ?_ GE170.out) | exact HB.out)⟩
        · rw [if_neg c19] at H
          exact absurd H (by simp)
section
attribute [local simp, local go_sem] G.alloc_drewN G.setCell_drewN
/-- A part on the stack: its slice, and the steps that it holds. -/
structure Pv where
  A : Option Addr
  n : Nat
  c : Nat
  l : List S45
def ptE : G.El Try.prog 66 64 Pv where
  enc q := [.slice q.A q.n q.c]
  sz := 1
  wd := 24
  zero := .agg #[.slice none 0 0]
  hpos := by decide
  henc _ := rfl
  hone q u hu := by
    simp only [List.mem_cons, List.not_mem_nil, or_false] at hu
    subst hu
    rfl
  hi := by kernel_rfl
  hzs := rfl
  hu := Try.underlying64
def Vw (W : World) (sv : Value) (q : Pv) : Prop := Kd.V k45 45 W 0 (fun k => some k ≠ sv.ownBlock) (.slice q.A q.n q.c) q.l
def foldXK (k : Nat) (vs : List S56) (x : S45) (l : List (List S45)) : Option (List S45) :=
  if x.f0 = 11 then none
  else if x.f0 = 12 ∨ x.f0 = 13 then none
  else if x.f0 = 6 ∨ x.f0 = 7 ∨ x.f0 = 8 ∨ x.f0 = 9 ∨ x.f0 = 10 then (if x.f0 = 7 then rule_textsK.f k x.f0 x.f1 (l.map S66.mk) else none)
  else rule_named.f k x.f0 x.f1 vs
def foldSK (k : Nat) (vs : List S56) (x : S45) (st : List (List S45)) : Option (List (List S45)) :=
  (rule_arity.f k x.f0).bind fun a => if 0 ≤ a ∧ a ≤ (st.length : Int) then (foldXK k vs x (st.drop (st.length - a.toNat))).map fun r => st.take (st.length - a.toNat) ++ [r] else none
def foldRK (k : Nat) (vs : List S56) : List S45 → List (List S45) → Option (List (List S45))
  | [], st => some st
  | x :: r, st => (foldSK k vs x st).bind (foldRK k vs r)
def rule_FoldK.f (k : Nat) (l0 : List S45) (l1 : List S56) : Option (List S45 × Int) :=
  (expr_Check.f l0).bind fun c => if c = true then (if l0.length ≤ 9000 then (foldRK k l1 l0 []).bind fun st => (st.head?).bind fun p => if p.length < 5864062014805 then some (p, 0) else none else none) else some ([], 120)
/-- How many parts a kind takes. -/
def arK (x : Int) : Nat := if x = 6 ∨ x = 11 then 1 else if x = 7 ∨ x = 8 ∨ x = 9 ∨ x = 10 ∨ x = 12 ∨ x = 13 then 2 else 0
theorem arK_pos {x : Int} (h : ¬ arK x = 0) : x = 6 ∨ x = 7 ∨ x = 8 ∨ x = 9 ∨ x = 10 ∨ x = 11 ∨ x = 12 ∨ x = 13 := by
  by_cases h1 : x = 6 ∨ x = 11
  · omega
  · by_cases h2 : x = 7 ∨ x = 8 ∨ x = 9 ∨ x = 10 ∨ x = 12 ∨ x = 13
    · omega
    · exact absurd (by unfold arK; rw [if_neg h1, if_neg h2]) h
theorem len_two {α : Type} {l : List α} (h : l.length = 2) : ∃ a b, l = [a, b] := by
  match l, h with
  | [a, b], _ => exact ⟨a, b, rfl⟩
theorem arity_is {k : Nat} {x a : Int} (h : rule_arity.f k x = some a) : a = (arK x : Int) := by
  unfold rule_arity.f at h
  cases k with
  | zero => simp [rule_arity.j0] at h
  | succ k =>
    simp only [rule_arity.j0] at h
    unfold arK
    by_cases h6 : x = 6
    · subst h6; simp at h ⊢; omega
    · by_cases h11 : x = 11
      · subst h11; simp at h ⊢; omega
      · by_cases h7 : x = 7
        · subst h7; simp at h ⊢; omega
        · by_cases h8 : x = 8
          · subst h8; simp at h ⊢; omega
          · by_cases h9 : x = 9
            · subst h9; simp at h ⊢; omega
            · by_cases h10 : x = 10
              · subst h10; simp at h ⊢; omega
              · by_cases h12 : x = 12
                · subst h12; simp at h ⊢; omega
                · by_cases h13 : x = 13
                  · subst h13; simp at h ⊢; omega
                  · simp [h6, h11, h7, h8, h9, h10, h12, h13] at h ⊢; omega
section
variable {W w1 : World} {sv u v1 : Value} {q : Pv} {A : Option Addr} {c b B0 : Nat} {r : List S45}
theorem Vw.new (h : Vw W sv q) (hb : G.But G.No W w1) : Vw w1 sv q := Kd.V_below h hb.belowNo
theorem Vw.re (h : Vw W sv q) (e : u.ownBlock = sv.ownBlock) : Vw W u q := by unfold Vw; rw [e]; exact h
theorem Vw.after (h : Vw W u q) (hg : W.grownBy w1 u.ownBlock) (hat : v1.ownBlock = u.ownBlock ∨ ∃ b, v1.ownBlock = some b ∧ W.heap.size ≤ b) : Vw w1 v1 q :=
  Kd.V_mono (Kd.V_after (ok := fun _ => True) (Kd.V_mono h (fun k hk => ⟨trivial, hk⟩)) hg hat) (fun k hk => hk.2)
theorem Vw.ofR (h : Kd.R k45 45 W B0 (fun _ => True) (.slice A r.length c) r) (hu : ∀ k, u.ownBlock = some k → k < B0) : Vw W u ⟨A, r.length, c, r⟩ :=
  Kd.V_mono (Kd.R_V (Kd.R_bound h)) (fun k hk e => by have := hu k e.symm; have := hk.2.1; omega)
theorem Vw.len (h : Vw W sv q) : q.n = q.l.length ∧ q.n ≤ q.c ∧ Kd.C k45 W q.A q.l.length q.l := Kd.V_reads' h
theorem pvC {g m c : Nat} {ls : List Pv} {base : Nat} (ho : ptE.Own W base (.slice (some ⟨g, 0, none⟩) m c) ls) (hv : ∀ q ∈ ls, Vw W sv q) (hm : ls.length ≤ 9223372036854775807) :
    Kd.C k66 W (some ⟨g, 0, none⟩) ((ls.map Pv.l).map S66.mk).length ((ls.map Pv.l).map S66.mk) := by
  refine ⟨rfl, by simpa using hm, fun _ => ⟨_, rfl, fun j p hp => ?_⟩⟩
  simp only [List.getElem?_map, Option.map_eq_some_iff] at hp
  obtain ⟨l, ⟨q, hq, rfl⟩, rfl⟩ := hp
  have hx := (hv q (List.mem_of_getElem? hq)).len
  refine ⟨[.slice q.A q.n q.c], rfl, ?_, ?_⟩
  · rw [hx.1]
    exact k66_mk W ⟨q.l⟩ (by have := hx.2.1; rw [hx.1] at this; exact this) hx.2.2
  · intro i u hu
    have hi : i = 0 := by
      cases i with
      | zero => rfl
      | succ i => simp at hu
    subst hi
    simp at hu
    subst hu
    have := ho.cell j q hq 0 _ rfl
    rw [G.addr_add]
    show W.cell? ⟨g, 0 + (j * 1 + 0), none⟩ = _
    rw [Nat.zero_add]
    exact this
theorem fold_close {w w6 : World} {st0 : List Pv} {nw : Pv} {g6 c6 n6 : Nat} (hb : G.But G.No w W) (hO : ptE.Own W w.heap.size u st0) (hV : ∀ q ∈ st0, Vw W u q) (hN : Vw W u nw)
    (hown : ptE.Own w6 w.heap.size (.slice (some ⟨g6, 0, none⟩) n6 c6) (st0 ++ [nw])) (hg : W.grownBy w6 u.ownBlock) (hat : u.ownBlock = some g6 ∨ g6 = W.heap.size) :
    G.But G.No w w6 ∧ ptE.Own w6 w.heap.size (.slice (some ⟨g6, 0, none⟩) n6 c6) (st0 ++ [nw]) ∧ ∀ q ∈ st0 ++ [nw], Vw w6 (.slice (some ⟨g6, 0, none⟩) n6 c6) q := by
  refine ⟨G.El.Own.grown hb hO hg (Nat.le_refl _), hown, fun q hq => ?_⟩
  have hat' : (Value.slice (some ⟨g6, 0, none⟩) n6 c6).ownBlock = u.ownBlock ∨ ∃ b, (Value.slice (some ⟨g6, 0, none⟩) n6 c6).ownBlock = some b ∧ W.heap.size ≤ b := by
    rcases hat with h | h
    · exact .inl (by rw [h]; rfl)
    · exact .inr ⟨g6, rfl, by omega⟩
  rcases List.mem_append.1 hq with h | h
  · exact (hV q h).after hg hat'
  · rw [List.mem_singleton.1 h]; exact hN.after hg hat'
end
def FoldAt (w : World) (k : Nat) (l0 : List S45) (vs : List S56) (F : Option (List (List S45))) (gk : Nat) (v6 v16 : Value) (wr : World) : Prop :=
  ∃ (i : Nat) (st : List Pv), gk = l0.length - i ∧ i ≤ l0.length ∧ v16 = .int .i64 (i : Int) ∧ G.But G.No w wr ∧ ptE.Own wr w.heap.size v6 st ∧ (∀ q ∈ st, Vw wr v6 q) ∧ st.length ≤ i ∧ foldRK k vs (l0.drop i) (st.map Pv.l) = F
theorem foldR_step {k : Nat} {vs : List S56} {x : S45} {rest : List S45} {st : List Pv} {R : List (List S45)} (h : foldRK k vs (x :: rest) (st.map Pv.l) = some R) :
    rule_arity.f k x.f0 = some (arK x.f0 : Int) ∧ ∃ st0 ls r, st = st0 ++ ls ∧ ls.length = arK x.f0 ∧ foldXK k vs x (ls.map Pv.l) = some r ∧ foldRK k vs rest (st0.map Pv.l ++ [r]) = some R := by
  have h' : (foldSK k vs x (st.map Pv.l)).bind (foldRK k vs rest) = some R := h
  obtain ⟨s, hs, hr⟩ := Option.bind_eq_some_iff.1 h'
  unfold foldSK at hs
  obtain ⟨a, ha, hb⟩ := Option.bind_eq_some_iff.1 hs
  have hk := arity_is ha
  subst hk
  refine ⟨ha, ?_⟩
  split at hb
  · rename_i hc
    obtain ⟨r, hx, he⟩ := Option.map_eq_some_iff.1 hb
    rw [List.length_map] at hc hx he
    have hc2 : arK x.f0 ≤ st.length := by omega
    refine ⟨st.take (st.length - arK x.f0), st.drop (st.length - arK x.f0), r, (List.take_append_drop _ _).symm, by simp; omega, ?_, ?_⟩
    · rw [← List.map_drop] at hx
      simpa using hx
    · rw [← List.map_take] at he
      rw [← hr, ← he]
      simp
  · cases hb
set_option maxHeartbeats 16000000 in
set_option maxRecDepth 100000 in
theorem rule_FoldK.calls (k : Nat) (A0 : Option Addr) (c0 : Nat) (l0 : List S45) (A1 : Option Addr) (c1 : Nat) (l1 : List S56) (r1 : List S45) (r2 : Int) (w : World) (hr0 : Kd.C k45 w A0 l0.length l0) (hc0 : l0.length ≤ c0) (hr1 : Kd.C k56 w A1 l1.length l1) (hc1 : l1.length ≤ c1) (h : rule_FoldK.f k l0 l1 = some (r1, r2)) :
    Calls Try.prog 19 #[.slice A0 l0.length c0, .slice A1 l1.length c1] w fun e w' => ∃ v0_ : Value, e = .returned (.tuple #[v0_, .int .i64 r2]) ∧ Kd.R k45 45 w' w.heap.size (fun _ => True) v0_ r1 ∧ Below w.heap.size w w' := by
  unfold rule_FoldK.f at h
  obtain ⟨cb, hck, h⟩ := Option.bind_eq_some_iff.1 h
  have HCK := Lib.hid hck
  have HR0 := Lib.hid hr0
  have HR1 := Lib.hid hr1
  have HC0 := Lib.hid hc0
  have HC1 := Lib.hid hc1
  clear hck hr0 hr1 hc0 hc1
  cases cb with
  | false =>
    rw [if_neg (by simp)] at h
    simp only [Option.some.injEq, Prod.mk.injEq] at h
    obtain ⟨rfl, rfl⟩ := h
    go_enter Try.func19, Try.ntmps19
    go_wp2_with fail
    refine (expr_Check.calls A0 c0 l0 false w HR0.out HC0.out HCK.out).mono ?_
    rintro e w1 ⟨rfl, hb⟩
    go_wp2_with fail
    go_ret2
    exact ⟨_, rfl, Kd.R_nil _ _ _ _ _, hb⟩
  | true =>
    rw [if_pos rfl] at h
    by_cases h9 : l0.length ≤ 9000
    · rw [if_pos h9] at h
      obtain ⟨R, hR, h⟩ := Option.bind_eq_some_iff.1 h
      have HR := Lib.hid hR
      have HH := Lib.hid h
      have hl0 : l0.length ≤ 9223372036854775807 := by omega
      clear hR h
      go_enter Try.func19, Try.ntmps19
      go_wp2_with fail
      refine (expr_Check.calls A0 c0 l0 true w HR0.out HC0.out HCK.out).mono ?_
      rintro e w1 ⟨rfl, hb⟩
      have hb0 : G.But G.No w w1 := G.But.of_below hb
      have HB0 := Lib.hid hb0
      clear hb hb0
      go_wp2_with fail
      go_loopg [6, 16] l0.length (fun gk v6 v16 wr => FoldAt w k l0 l1 (some R) gk v6 v16 wr)
      case atStart => exact ⟨0, [], rfl, Nat.zero_le _, rfl, HB0.out, G.El.own_nil _ _, (fun q h => by cases h), Nat.le_refl _, HR.out⟩
      case round =>
        obtain ⟨i, st, hgk, hi, rfl, hb, hO, hV, hln, hF⟩ := hrel
        have HGK := Lib.hid hgk
        have HB := Lib.hid hb
        have HO := Lib.hid hO
        have HV := Lib.hid hV
        have hbz := hb.size
        by_cases hlt : i < l0.length
        · obtain ⟨ad, hA, k1, k2⟩ := at_T45 HR0.out (i : Int) (by omega) (by omega)
          have hd : l0.drop i = l0[i] :: l0.drop (i + 1) := List.drop_eq_getElem_cons hlt
          have hrd : rd_T45 l0 (i : Int) = l0[i] := by unfold rd_T45; simp [hlt]
          rw [hrd] at k1 k2
          rw [hd] at hF
          obtain ⟨hAr, st0, ls, r, hst, hls, hx, hrest⟩ := foldR_step hF
          cases hA
          have k1' := HB.out.cell_some k1 (fun c => c)
          have k2' := HB.out.cell_some k2 (fun c => c)
          have hlt' : (i : Int) < (l0.length : Int) := by omega
          have dl : decide ((i : Int) < (l0.length : Int)) = true := by simp; omega
          obtain ⟨⟨kk, tx⟩, hq⟩ : ∃ q, l0[i] = q := ⟨_, rfl⟩
          rw [hq] at k1' k2' hAr hls hx
          simp only [Int.toNat_natCast] at k1' k2' hAr hls
          have HAr := Lib.hid hAr
          have HX := Lib.hid hx
          have HRest := Lib.hid hrest
          clear hgk hb hO hV hF k1 k2 hd hrd hq hAr hx hrest
          by_cases hm : arK kk = 0
          · obtain rfl : ls = [] := List.eq_nil_of_length_eq_zero (hls.trans hm)
            rw [List.append_nil] at hst
            subst hst
            rw [hm] at HAr
            have HX2 := Lib.hid (show rule_named.f k kk tx l1 = some r from by
              have := HX.out
              unfold foldXK at this
              have hk : ¬ (kk = 6 ∨ kk = 11) ∧ ¬ (kk = 7 ∨ kk = 8 ∨ kk = 9 ∨ kk = 10 ∨ kk = 12 ∨ kk = 13) := by
                unfold arK at hm
                constructor
                · intro h; rw [if_pos h] at hm; cases hm
                · intro h
                  rw [if_neg (by omega), if_pos h] at hm; cases hm
              rw [if_neg (show ¬ kk = 11 by omega), if_neg (show ¬ (kk = 12 ∨ kk = 13) by omega), if_neg (show ¬ (kk = 6 ∨ kk = 7 ∨ kk = 8 ∨ kk = 9 ∨ kk = 10) by omega)] at this
              exact this)
            have hk : ¬ (kk = 6 ∨ kk = 11) ∧ ¬ (kk = 7 ∨ kk = 8 ∨ kk = 9 ∨ kk = 10 ∨ kk = 12 ∨ kk = 13) := by
              unfold arK at hm
              constructor
              · intro h; rw [if_pos h] at hm; cases hm
              · intro h
                rw [if_neg (by omega), if_pos h] at hm; cases hm
            have e6 : (kk == 6) = false := by simp; omega
            have e7 : (kk == 7) = false := by simp; omega
            have e8 : (kk == 8) = false := by simp; omega
            have e9 : (kk == 9) = false := by simp; omega
            have e10 : (kk == 10) = false := by simp; omega
            have e11 : (kk == 11) = false := by simp; omega
            have e12 : (kk == 12) = false := by simp; omega
            have e13 : (kk == 13) = false := by simp; omega
            clear hls hm hk
            have hst9 : st.length ≤ 9000 := by omega
            have hwz : (wr.alloc (.cells #[.int .i64 kk, .string tx] 45)).heap.size = wr.heap.size + 1 := by simp
            have HWZ := Lib.hid hwz
            clear hwz
            rcases HO.out.form with ⟨rfl, rfl⟩ | ⟨gs, c, rfl, hgs, hgsl, hcap, hmx⟩
            · have e0 : ([] : List Pv).length = 0 := rfl
              go_wp2_with fail
              refine (rule_arity.calls k kk (0 : Nat) _ HAr.out).mono ?_
              rintro e w2 ⟨rfl, ⟨⟨n, rfl⟩⟩⟩
              have HB4 := Lib.hid (((HB.out.alloc (.cells #[.int .i64 kk, .string tx] 45)).alloc (.cells #[] 66)).drewN n)
              have HB5 := Lib.hid ((((G.But.refl G.No wr).alloc (.cells #[.int .i64 kk, .string tx] 45)).alloc (.cells #[] 66)).drewN n)
              go_wp2_with (first | (go_at_call 43; refine (rule_named.calls k kk tx A1 c1 l1 r _ (Kd.C_below HR1.out (HB4.out.belowNo)) HC1.out HX2.out).mono ?_; rintro e w5 ⟨v0, rfl, hv, hb5⟩; obtain ⟨A', c', rfl⟩ := Kd.R_slice hv; (have HN := Lib.hid (Vw.ofR (u := .slice none 0 0) hv (fun k hk => by cases hk))); (have HB6 := Lib.hid (show G.But G.No _ w5 from G.But.of_below hb5)); clear hv hb5) | (refine ptE.append1L rfl _ _ rfl rfl w.heap.size (.slice none 0 0) ([] : List Pv) rfl ((HO.out.new (HB5.out.trans HB6.out)).alloc _) w5.heap.size ⟨A', r.length, c', r⟩ #[.slice A' r.length c'] rfl rfl (heap_alloc_new _ _) (by show (([] : List Pv).length + 1) * (24 + 1) ≤ _; simp; try omega) (Nat.le_trans (HB4.out.trans HB6.out).size (by simp)) ?_; intro g6 c6 w6 hown hgrow hat; (have HQ := Lib.hid (fold_close ((HB4.out.trans HB6.out).alloc _) ((HO.out.new (HB5.out.trans HB6.out)).alloc _) (fun q hq => (HV.out q hq).new ((HB5.out.trans HB6.out).alloc _)) (HN.out.new ((G.But.refl G.No _).alloc _)) hown hgrow hat)); clear hown hgrow hat))
              go_roundg (l0.length - (i + 1))
              case measure => rw [HGK.out]; omega
              case rel => exact ⟨i + 1, ([] : List Pv) ++ [⟨A', r.length, c', r⟩], rfl, by omega, by go_num, HQ.out.1, HQ.out.2.1, HQ.out.2.2, by simp; try omega, by rw [List.map_append]; exact HRest.out⟩
            · by_cases hcn : c = st.length
              · subst hcn
                go_wp2_with fail
                refine (rule_arity.calls k kk (0 : Nat) _ HAr.out).mono ?_
                rintro e w2 ⟨rfl, ⟨⟨n, rfl⟩⟩⟩
                have HB4 := Lib.hid (((HB.out.alloc (.cells #[.int .i64 kk, .string tx] 45)).alloc (.cells #[] 66)).drewN n)
                have HB5 := Lib.hid ((((G.But.refl G.No wr).alloc (.cells #[.int .i64 kk, .string tx] 45)).alloc (.cells #[] 66)).drewN n)
                go_wp2_with (first | (go_at_call 43; refine (rule_named.calls k kk tx A1 c1 l1 r _ (Kd.C_below HR1.out (HB4.out.belowNo)) HC1.out HX2.out).mono ?_; rintro e w5 ⟨v0, rfl, hv, hb5⟩; obtain ⟨A', c', rfl⟩ := Kd.R_slice hv; (have HN := Lib.hid (Vw.ofR (u := (.slice (some ⟨gs, 0, none⟩) st.length st.length)) hv (fun k hk => by injection hk with hk; subst hk; exact Nat.lt_of_lt_of_le hgsl (by simp; try omega)))); (have HB6 := Lib.hid (show G.But G.No _ w5 from G.But.of_below hb5)); clear hv hb5) | (refine ptE.append1L rfl _ _ rfl rfl w.heap.size (.slice (some ⟨gs, 0, none⟩) st.length st.length) st rfl ((HO.out.new (HB5.out.trans HB6.out)).alloc _) w5.heap.size ⟨A', r.length, c', r⟩ #[.slice A' r.length c'] rfl rfl (heap_alloc_new _ _) (by show (st.length + 1) * (24 + 1) ≤ _; simp; try omega) (Nat.le_trans (HB4.out.trans HB6.out).size (by simp)) ?_; intro g6 c6 w6 hown hgrow hat; (have HQ := Lib.hid (fold_close ((HB4.out.trans HB6.out).alloc _) ((HO.out.new (HB5.out.trans HB6.out)).alloc _) (fun q hq => (HV.out q hq).new ((HB5.out.trans HB6.out).alloc _)) (HN.out.new ((G.But.refl G.No _).alloc _)) hown hgrow hat)); clear hown hgrow hat))
                go_roundg (l0.length - (i + 1))
                case measure => rw [HGK.out]; omega
                case rel => exact ⟨i + 1, st ++ [⟨A', r.length, c', r⟩], rfl, by omega, by go_num, HQ.out.1, HQ.out.2.1, HQ.out.2.2, by simp; try omega, by rw [List.map_append]; exact HRest.out⟩
              · skip
                go_wp2_with fail
                refine (rule_arity.calls k kk (0 : Nat) _ HAr.out).mono ?_
                rintro e w2 ⟨rfl, ⟨⟨n, rfl⟩⟩⟩
                have HB4 := Lib.hid (((HB.out.alloc (.cells #[.int .i64 kk, .string tx] 45)).alloc (.cells #[] 66)).drewN n)
                have HB5 := Lib.hid ((((G.But.refl G.No wr).alloc (.cells #[.int .i64 kk, .string tx] 45)).alloc (.cells #[] 66)).drewN n)
                go_wp2_with (first | (go_at_call 43; refine (rule_named.calls k kk tx A1 c1 l1 r _ (Kd.C_below HR1.out (HB4.out.belowNo)) HC1.out HX2.out).mono ?_; rintro e w5 ⟨v0, rfl, hv, hb5⟩; obtain ⟨A', c', rfl⟩ := Kd.R_slice hv; (have HN := Lib.hid (Vw.ofR (u := (.slice (some ⟨gs, 0, none⟩) st.length c)) hv (fun k hk => by injection hk with hk; subst hk; exact Nat.lt_of_lt_of_le hgsl (by simp; try omega)))); (have HB6 := Lib.hid (show G.But G.No _ w5 from G.But.of_below hb5)); clear hv hb5) | (refine ptE.append1L rfl _ _ rfl rfl w.heap.size (.slice (some ⟨gs, 0, none⟩) st.length c) st rfl ((HO.out.new (HB5.out.trans HB6.out)).alloc _) w5.heap.size ⟨A', r.length, c', r⟩ #[.slice A' r.length c'] rfl rfl (heap_alloc_new _ _) (by show (st.length + 1) * (24 + 1) ≤ _; simp; try omega) (Nat.le_trans (HB4.out.trans HB6.out).size (by simp)) ?_; intro g6 c6 w6 hown hgrow hat; (have HQ := Lib.hid (fold_close ((HB4.out.trans HB6.out).alloc _) ((HO.out.new (HB5.out.trans HB6.out)).alloc _) (fun q hq => (HV.out q hq).new ((HB5.out.trans HB6.out).alloc _)) (HN.out.new ((G.But.refl G.No _).alloc _)) hown hgrow hat)); clear hown hgrow hat))
                go_roundg (l0.length - (i + 1))
                case measure => rw [HGK.out]; omega
                case rel => exact ⟨i + 1, st ++ [⟨A', r.length, c', r⟩], rfl, by omega, by go_num, HQ.out.1, HQ.out.2.1, HQ.out.2.2, by simp; try omega, by rw [List.map_append]; exact HRest.out⟩
          · rcases arK_pos hm with rfl | rfl | rfl | rfl | rfl | rfl | rfl | rfl
            · exact absurd HX.out (by unfold foldXK; simp)
            · obtain ⟨⟨pA, pn, pc, pl⟩, ⟨qA, qn, qc, ql⟩, rfl⟩ := len_two (show ls.length = 2 from hls)
              obtain rfl : pn = pl.length := (HV.out ⟨pA, pn, pc, pl⟩ (by rw [hst]; simp)).len.1
              obtain rfl : qn = ql.length := (HV.out ⟨qA, qn, qc, ql⟩ (by rw [hst]; simp)).len.1
              subst hst
              clear hls hm
              obtain ⟨gs, c, rfl, hgs, hgsl, hcap, hmx⟩ := HO.out.lit (by simp)
              have hsrc : ∀ j u, (ptE.cells [⟨pA, pl.length, pc, pl⟩, ⟨qA, ql.length, qc, ql⟩])[j]? = some u → wr.cell? ((⟨gs, st0.length, none⟩ : Addr).add j) = some u := by
                have := HO.out.part
                rw [show st0.length * ptE.sz = st0.length from Nat.mul_one _] at this
                exact this
              have HSrc := Lib.hid hsrc
              have HSh := Lib.hid HO.out.shrink
              rw [List.length_append, show ([⟨pA, pl.length, pc, pl⟩, ⟨qA, ql.length, qc, ql⟩] : List Pv).length = 2 from rfl] at hcap
              have hst0 : st0.length ≤ 9000 := by rw [List.length_append] at hln; omega
              have hln2 : st0.length ≤ i := by rw [List.length_append] at hln; omega
              have hgc : st0.length ≤ c := by omega
              have hne : ¬ c = st0.length := by omega
              have hwz : (wr.alloc (.cells #[.int .i64 7, .string tx] 45)).heap.size = wr.heap.size + 1 := by simp
              have HWZ := Lib.hid hwz
              have HV1 := Lib.hid (show ∀ q ∈ st0, Vw wr (.slice (some ⟨gs, 0, none⟩) st0.length c) q from fun q hq => (HV.out q (List.mem_append_left _ hq)).re rfl)
              have HVp := Lib.hid (show Vw wr (.slice (some ⟨gs, 0, none⟩) st0.length c) ⟨pA, pl.length, pc, pl⟩ from (HV.out _ (by simp)).re rfl)
              have HVq := Lib.hid (show Vw wr (.slice (some ⟨gs, 0, none⟩) st0.length c) ⟨qA, ql.length, qc, ql⟩ from (HV.out _ (by simp)).re rfl)
              clear hsrc hwz hcap hln
              go_wp2_with fail
              refine (rule_arity.calls k 7 2 _ HAr.out).mono ?_
              rintro e w2 ⟨rfl, ⟨⟨n, rfl⟩⟩⟩
              go_wp2_with (refine ptE.appendL rfl _ _ rfl rfl (wr.heap.size + 1) _ [] rfl ((G.El.Own.fresh' (wr.alloc (.cells #[.int .i64 7, .string tx] 45)) _ HWZ.out (Nat.le_refl _)).drewN n) ⟨gs, st0.length, none⟩ 2 (c - st0.length) [⟨pA, pl.length, pc, pl⟩, ⟨qA, ql.length, qc, ql⟩] rfl (by decide) rfl (fun j u hj => ((((G.But.refl G.No wr).alloc _).alloc _).drewN n).cell_some (HSrc.out j u hj) (fun c => c)) (by decide) (by simp) ?_; intro g2 c2 w3 hown hgrow hat; (have hb3 : G.But G.No (wr.alloc (.cells #[.int .i64 7, .string tx] 45)) w3 := G.El.Own.grown (((G.But.refl G.No _).alloc _).drewN n) ((G.El.Own.fresh' (E := ptE) (wr.alloc (.cells #[.int .i64 7, .string tx] 45)) _ HWZ.out (Nat.le_refl _)).drewN n) hgrow (Nat.le_of_eq HWZ.out)); (have HL := Lib.hid (show ptE.Own w3 (wr.heap.size + 1) (.slice (some ⟨g2, 0, none⟩) 2 c2) [⟨pA, pl.length, pc, pl⟩, ⟨qA, ql.length, qc, ql⟩] from hown)); (have HB3 := Lib.hid hb3); (have hx0 : w3.cell? ⟨wr.heap.size, 0, none⟩ = some (.int .i64 7) := hb3.cell_some (p := ⟨wr.heap.size, 0, none⟩) ((cell_of_row _ _ 0 _ _ _ (heap_alloc_new wr _)).trans rfl) (fun c => c)); (have hx1 : w3.cell? ⟨wr.heap.size, 1, none⟩ = some (.string tx) := hb3.cell_some (p := ⟨wr.heap.size, 1, none⟩) ((cell_of_row _ _ 1 _ _ _ (heap_alloc_new wr _)).trans rfl) (fun c => c)); (have hcp : w3.cell? ⟨g2, 0, none⟩ = some (.slice pA pl.length pc) := HL.out.cell 0 _ rfl 0 _ rfl); (have hcq : w3.cell? ⟨g2, 1, none⟩ = some (.slice qA ql.length qc) := HL.out.cell 1 _ rfl 0 _ rfl); clear hgrow hown hat hb3)
              have HB4 := Lib.hid ((HB.out.alloc (.cells #[.int .i64 7, .string tx] 45)).trans HB3.out)
              have HB5 := Lib.hid (((G.But.refl G.No wr).alloc (.cells #[.int .i64 7, .string tx] 45)).trans HB3.out)
              have hgs3 : gs < w3.heap.size := Nat.lt_of_lt_of_le hgsl HB5.out.size
              have HX2 := Lib.hid (show rule_textsK.f k 7 tx ([pl, ql].map S66.mk) = some r from HX.out)
              have HPC := Lib.hid (show Kd.C k66 w3 (some ⟨g2, 0, none⟩) ([pl, ql].map S66.mk).length ([pl, ql].map S66.mk) from pvC (sv := .slice (some ⟨gs, 0, none⟩) st0.length c) HL.out (by
                intro q hq
                simp only [List.mem_cons, List.not_mem_nil, or_false] at hq
                rcases hq with rfl | rfl
                · exact HVp.out.new HB5.out
                · exact HVq.out.new HB5.out) (by simp))
              have HCm := Lib.hid (show ([pl, ql].map S66.mk).length ≤ c2 from HL.out.cap)
              go_wp2_with (first | (go_at_call 42; refine (rule_textsK.calls k 7 tx (some ⟨g2, 0, none⟩) c2 ([pl, ql].map S66.mk) r _ (HPC.out) HCm.out HX2.out).mono ?_; rintro e w5 ⟨v0, rfl, hv, hb5⟩; obtain ⟨A', c', rfl⟩ := Kd.R_slice hv; (have HN := Lib.hid (Vw.ofR (u := .slice (some ⟨gs, 0, none⟩) st0.length c) hv (fun k hk => by injection hk with hk; subst hk; exact hgs3))); (have HB6 := Lib.hid (show G.But G.No w3 w5 from G.But.of_below hb5)); clear hv hb5) | (refine ptE.append1L rfl _ _ rfl rfl w.heap.size (.slice (some ⟨gs, 0, none⟩) st0.length c) st0 rfl ((HSh.out.new (HB5.out.trans HB6.out)).alloc _) w5.heap.size ⟨A', r.length, c', r⟩ #[.slice A' r.length c'] rfl rfl (heap_alloc_new _ _) (by show (st0.length + 1) * (24 + 1) ≤ _; omega) (Nat.le_trans (HB4.out.trans HB6.out).size (by simp)) ?_; intro g6 c6 w6 hown hgrow hat; (have HQ := Lib.hid (fold_close ((HB4.out.trans HB6.out).alloc _) ((HSh.out.new (HB5.out.trans HB6.out)).alloc _) (fun q hq => (HV1.out q hq).new ((HB5.out.trans HB6.out).alloc _)) (HN.out.new ((G.But.refl G.No _).alloc _)) hown hgrow hat)); clear hown hgrow hat))
              go_roundg (l0.length - (i + 1))
              case measure => rw [HGK.out]; omega
              case rel => exact ⟨i + 1, st0 ++ [⟨A', r.length, c', r⟩], rfl, by omega, by go_num, HQ.out.1, HQ.out.2.1, HQ.out.2.2, by simp; omega, by rw [List.map_append]; exact HRest.out⟩
            · exact absurd HX.out (by unfold foldXK; simp)
            · exact absurd HX.out (by unfold foldXK; simp)
            · exact absurd HX.out (by unfold foldXK; simp)
            · exact absurd HX.out (by unfold foldXK; simp)
            · exact absurd HX.out (by unfold foldXK; simp)
            · exact absurd HX.out (by unfold foldXK; simp)
        · obtain rfl : i = l0.length := by omega
          have hlt' : ¬ (l0.length : Int) < (l0.length : Int) := by omega
          have hR2 : st.map Pv.l = R := by
            rw [List.drop_length] at hF
            injection hF
          obtain ⟨p, st', rfl⟩ : ∃ p st', st = p :: st' := by
            have hh := HH.out
            rw [← hR2] at hh
            cases st with
            | nil => cases hh
            | cons p st' => exact ⟨p, st', rfl⟩
          have hpr : p.l.length < 5864062014805 ∧ p.l = r1 ∧ r2 = 0 := by
            have hh := HH.out
            rw [← hR2] at hh
            simp only [List.map_cons, List.head?_cons, Option.bind_some] at hh
            split at hh
            · rename_i hlt
              simp only [Option.some.injEq, Prod.mk.injEq] at hh
              exact ⟨hlt, hh.1, hh.2.symm⟩
            · cases hh
          obtain ⟨pA, pn, pc, pl⟩ := p
          obtain ⟨hp0, hp1, hp2⟩ := hpr
          have HP0 := Lib.hid hp0
          have HP := Lib.hid (HV.out ⟨pA, pn, pc, pl⟩ (List.mem_cons_self ..))
          obtain rfl : pn = pl.length := HP.out.len.1
          obtain ⟨gs, c, rfl, hgs, hgsl, hcap, hmx⟩ := HO.out.lit (by simp)
          have hcp : wr.cell? ⟨gs, 0, none⟩ = some (.slice pA pl.length pc) := HO.out.cell 0 _ rfl 0 _ rfl
          have hpl : pl = r1 := hp1
          subst hpl
          subst hp2
          have HPC := Lib.hid HP.out.len.2.2
          clear hgk hb hO hV hF hR2 hp1 hp0
          have hcp1 : pl.length ≤ pc := HP.out.len.2.1
          have hp0 : pl.length < 5864062014805 := HP0.out
          have T1 : ∀ w9 v9, Below wr.heap.size wr w9 → Kd.R k45 45 w9 wr.heap.size (fun _ => True) v9 [] → ∀ (ops : Array Oper) (rest : List Oper) (o : Oper) (a : Act) (Q : Exit → Act → World → Prop), o.guard = none → o.op = .call { callee := .builtin .append, args := #[.tmp 79, .tmp 83], argTypes := #[22, 22] } → a.eval (.tmp 79) = v9 → a.eval (.tmp 83) = .slice pA pl.length pc →
            (∀ v1 w1, Kd.R k45 45 w1 w.heap.size (fun _ => True) v1 pl → Below w.heap.size w w1 → wpList Try.prog ops Q rest (a.put o.dst v1) w1) → wpList Try.prog ops Q (o :: rest) a w9 := by
            intro w9 v9 hb9 ho9 ops rest o a Q hgd ho hs hx hc
            refine Kd.R_append_rows k45 (w0 := w) w.heap.size hgd (.tmp 79) (.tmp 83) 22 45 (.agg #[(.int .i64 0), (.string ⟨#[]⟩)]) 24 ho Try.underlying22 info45 rfl (by decide) (by omega) v9 [] pl _ _ _ (fun _ => True) (fun _ => False) hs hx ?aO ?aR (fun _ _ h => h) (fun _ h => h.elim) ?aF ?aB ?aS ?aL ?_
            case aR => exact Kd.C_below HPC.out hb9
            case aB => exact below_then HB.out.belowNo hbz hb9
            case aF => exact (fun _ _ => trivial)
            case aO => exact Kd.R_lower ho9 hbz
            case aS => exact Nat.le_trans hbz hb9.size
            case aL => show (0 + pl.length) * 24 ≤ _; omega
            intro v1 w1 ho hb hg hat
            exact hc v1 w1 ho hb
          have HT1 := Lib.hid T1
          clear T1
          go_wp2_with (first | ((with_reducible refine gate_dst (N := 79) rfl ?_); refine Kd.R_lit k45 _ 45 ?hg (N := 79) ?hd (xs := ([] : List S45)) (inner := []) (ok := fun _ => True) (okp := fun _ => True) ?hr ?hp (fun _ hk => hk) trivial (Below.refl _ _) (Nat.le_refl _) (by simp) ?_; (case hd => rfl); (case hg => rfl); (case hr => first | (go_simp; done) | (go_simp; rfl)); (case hp => exact (Reps.none _ _)); intro v9 w9 ho9 hb9 hg_ hnew_; clear hg_ hnew_; (have HO9 := Lib.hid ho9); (have HB9 := Lib.hid hb9); (have hcp9 : w9.cell? ⟨gs, 0, none⟩ = some (.slice pA pl.length pc) := (hb9.cell (p := ⟨gs, 0, none⟩) hgsl).trans hcp); clear ho9 hb9) | (at_builtin; refine HT1.out w9 v9 HB9.out HO9.out _ _ _ _ _ rfl rfl rfl rfl ?_; intro v10 w10 ho hb; (have HO10 := Lib.hid ho); (have HB10 := Lib.hid hb); clear ho hb))
          go_ret2
          exact ⟨v10, rfl, HO10.out, HB10.out⟩
    · rw [if_neg h9] at h
      cases h
end


def shuttlelaw12_awakeK.f (k : Nat)  : Option (Bool) := (some (([(⟨2, (⟨#[65]⟩ : ByteArray)⟩ : S45), (⟨1, (⟨#[49]⟩ : ByteArray)⟩ : S45), (⟨7, (⟨#[]⟩ : ByteArray)⟩ : S45)] : List (S45)) : List (S45))).bind fun y224 => ((some (([(⟨(⟨#[65]⟩ : ByteArray), (⟨#[49]⟩ : ByteArray)⟩ : S56)] : List (S56)) : List (S56))).bind fun y227 => ((rule_Eval.f y224 y227).bind fun bt230 => ((rule_FoldK.f k y224 y227).bind fun bt232 => ((rule_When.f k (([(⟨y224, 2⟩ : S48)] : List (S48))) 0 y227).bind fun bt239 => (if bt230.1 = true then (if bt230.2 = 0 then (if bt232.2 = 0 then ((shuttlelaw0_SameSteps.f k bt232.1 (([(⟨4, (⟨#[]⟩ : ByteArray)⟩ : S45)] : List (S45)))).bind fun t244 => (if t244 = true then (if bt239.1 = 2 then (some (bt239.2 == 0)) else (some false)) else (some false))) else (some false)) else (some false)) else (some false))))))
set_option maxHeartbeats 8000000 in
set_option maxRecDepth 100000 in
theorem shuttlelaw12_awakeK.callsT (k : Nat)  (r : Bool) (hT : Aside0 (r = true)) (w : World) (h : shuttlelaw12_awakeK.f k  = some r) :
    Calls Try.prog 17 #[] w fun e w' => e = .returned (.bool r) ∧ Below w.heap.size w w' := by
  have hu45 := Try.underlying45
  have hu56 := Try.underlying56
  have hu48 := Try.underlying48
  have HB := Aside0.mk (Below.refl w.heap.size w)
  have H : ((some (([(⟨2, (⟨#[65]⟩ : ByteArray)⟩ : S45), (⟨1, (⟨#[49]⟩ : ByteArray)⟩ : S45), (⟨7, (⟨#[]⟩ : ByteArray)⟩ : S45)] : List (S45)) : List (S45))).bind fun y224 => ((some (([(⟨(⟨#[65]⟩ : ByteArray), (⟨#[49]⟩ : ByteArray)⟩ : S56)] : List (S56)) : List (S56))).bind fun y227 => ((rule_Eval.f y224 y227).bind fun bt230 => ((rule_FoldK.f k y224 y227).bind fun bt232 => ((rule_When.f k (([(⟨y224, 2⟩ : S48)] : List (S48))) 0 y227).bind fun bt239 => (if bt230.1 = true then (if bt230.2 = 0 then (if bt232.2 = 0 then ((shuttlelaw0_SameSteps.f k bt232.1 (([(⟨4, (⟨#[]⟩ : ByteArray)⟩ : S45)] : List (S45)))).bind fun t244 => (if t244 = true then (if bt239.1 = 2 then (some (bt239.2 == 0)) else (some false)) else (some false))) else (some false)) else (some false)) else (some false))))))) = some r := h
  clear h
  obtain ⟨y224, hy224⟩ : ∃ y_ : List (S45), y_ = (([(⟨2, (⟨#[65]⟩ : ByteArray)⟩ : S45), (⟨1, (⟨#[49]⟩ : ByteArray)⟩ : S45), (⟨7, (⟨#[]⟩ : ByteArray)⟩ : S45)] : List (S45))) := ⟨_, rfl⟩
  replace H : ((some (([(⟨(⟨#[65]⟩ : ByteArray), (⟨#[49]⟩ : ByteArray)⟩ : S56)] : List (S56)) : List (S56))).bind fun y227 => ((rule_Eval.f y224 y227).bind fun bt230 => ((rule_FoldK.f k y224 y227).bind fun bt232 => ((rule_When.f k (([(⟨y224, 2⟩ : S48)] : List (S48))) 0 y227).bind fun bt239 => (if bt230.1 = true then (if bt230.2 = 0 then (if bt232.2 = 0 then ((shuttlelaw0_SameSteps.f k bt232.1 (([(⟨4, (⟨#[]⟩ : ByteArray)⟩ : S45)] : List (S45)))).bind fun t244 => (if t244 = true then (if bt239.1 = 2 then (some (bt239.2 == 0)) else (some false)) else (some false))) else (some false)) else (some false)) else (some false)))))) = some r := by first | (rw [hy224]; with_reducible exact H) | (have H2_ := (Option.bind_some _ _).symm.trans H; rw [hy224]; with_reducible exact H2_) | (have H2_ := (Option.bind_some _ _).symm.trans H; with_reducible exact H2_) | with_reducible exact H | (rw [hy224]; exact H) | exact H
  have Ny224 := Aside0.mk hy224
  clear hy224
  obtain ⟨y227, hy227⟩ : ∃ y_ : List (S56), y_ = (([(⟨(⟨#[65]⟩ : ByteArray), (⟨#[49]⟩ : ByteArray)⟩ : S56)] : List (S56))) := ⟨_, rfl⟩
  replace H : ((rule_Eval.f y224 y227).bind fun bt230 => ((rule_FoldK.f k y224 y227).bind fun bt232 => ((rule_When.f k (([(⟨y224, 2⟩ : S48)] : List (S48))) 0 y227).bind fun bt239 => (if bt230.1 = true then (if bt230.2 = 0 then (if bt232.2 = 0 then ((shuttlelaw0_SameSteps.f k bt232.1 (([(⟨4, (⟨#[]⟩ : ByteArray)⟩ : S45)] : List (S45)))).bind fun t244 => (if t244 = true then (if bt239.1 = 2 then (some (bt239.2 == 0)) else (some false)) else (some false))) else (some false)) else (some false)) else (some false))))) = some r := by first | (rw [hy227]; with_reducible exact H) | (have H2_ := (Option.bind_some _ _).symm.trans H; rw [hy227]; with_reducible exact H2_) | (have H2_ := (Option.bind_some _ _).symm.trans H; with_reducible exact H2_) | with_reducible exact H | (rw [hy227]; exact H) | exact H
  have Ny227 := Aside0.mk hy227
  clear hy227
  replace H := Option.bind_eq_some_iff.mp H
  obtain ⟨⟨t230, t231⟩, A10, H⟩ := H
  replace H : ((rule_FoldK.f k y224 y227).bind fun bt232 => ((rule_When.f k (([(⟨y224, 2⟩ : S48)] : List (S48))) 0 y227).bind fun bt239 => (if t230 = true then (if t231 = 0 then (if bt232.2 = 0 then ((shuttlelaw0_SameSteps.f k bt232.1 (([(⟨4, (⟨#[]⟩ : ByteArray)⟩ : S45)] : List (S45)))).bind fun t244 => (if t244 = true then (if bt239.1 = 2 then (some (bt239.2 == 0)) else (some false)) else (some false))) else (some false)) else (some false)) else (some false)))) = some r := H
  have A1 := Aside0.mk A10
  clear A10
  replace H := Option.bind_eq_some_iff.mp H
  obtain ⟨⟨t232, t233⟩, A20, H⟩ := H
  replace H : ((rule_When.f k (([(⟨y224, 2⟩ : S48)] : List (S48))) 0 y227).bind fun bt239 => (if t230 = true then (if t231 = 0 then (if t233 = 0 then ((shuttlelaw0_SameSteps.f k t232 (([(⟨4, (⟨#[]⟩ : ByteArray)⟩ : S45)] : List (S45)))).bind fun t244 => (if t244 = true then (if bt239.1 = 2 then (some (bt239.2 == 0)) else (some false)) else (some false))) else (some false)) else (some false)) else (some false))) = some r := H
  have A2 := Aside0.mk A20
  clear A20
  obtain ⟨y236, hy236⟩ : ∃ y_ : List (S48), y_ = (([(⟨y224, 2⟩ : S48)] : List (S48))) := ⟨_, rfl⟩
  replace H : ((rule_When.f k y236 0 y227).bind fun bt239 => (if t230 = true then (if t231 = 0 then (if t233 = 0 then ((shuttlelaw0_SameSteps.f k t232 (([(⟨4, (⟨#[]⟩ : ByteArray)⟩ : S45)] : List (S45)))).bind fun t244 => (if t244 = true then (if bt239.1 = 2 then (some (bt239.2 == 0)) else (some false)) else (some false))) else (some false)) else (some false)) else (some false))) = some r := by first | (rw [hy236]; with_reducible exact H) | (have H2_ := (Option.bind_some _ _).symm.trans H; rw [hy236]; with_reducible exact H2_) | (have H2_ := (Option.bind_some _ _).symm.trans H; with_reducible exact H2_) | with_reducible exact H | (rw [hy236]; exact H) | exact H
  have Ny236 := Aside0.mk hy236
  clear hy236
  replace H := Option.bind_eq_some_iff.mp H
  obtain ⟨⟨t239, t240⟩, A30, H⟩ := H
  replace H : (if t230 = true then (if t231 = 0 then (if t233 = 0 then ((shuttlelaw0_SameSteps.f k t232 (([(⟨4, (⟨#[]⟩ : ByteArray)⟩ : S45)] : List (S45)))).bind fun t244 => (if t244 = true then (if t239 = 2 then (some (t240 == 0)) else (some false)) else (some false))) else (some false)) else (some false)) else (some false)) = some r := H
  have A3 := Aside0.mk A30
  clear A30
  by_cases c4 : t230 = true
  · subst c4
    have H1 : (if t231 = 0 then (if t233 = 0 then ((shuttlelaw0_SameSteps.f k t232 (([(⟨4, (⟨#[]⟩ : ByteArray)⟩ : S45)] : List (S45)))).bind fun t244 => (if t244 = true then (if t239 = 2 then (some (t240 == 0)) else (some false)) else (some false))) else (some false)) else (some false)) = some r := by rw [if_pos rfl] at H; exact H
    clear H
    have H := H1
    clear H1
    by_cases c5 : t231 = 0
    · rw [if_pos c5] at H
      have c5b0 : (t231 == 0) = true := beq_iff_eq.mpr c5
      have c5b1 : (t231 != 0) = false := bne_eq_false_iff_eq.mpr c5
      clear c5
      by_cases c6 : t233 = 0
      · rw [if_pos c6] at H
        have c6b0 : (t233 == 0) = true := beq_iff_eq.mpr c6
        have c6b1 : (t233 != 0) = false := bne_eq_false_iff_eq.mpr c6
        clear c6
        obtain ⟨y241, hy241⟩ : ∃ y_ : List (S45), y_ = (([(⟨4, (⟨#[]⟩ : ByteArray)⟩ : S45)] : List (S45))) := ⟨_, rfl⟩
        replace H : ((shuttlelaw0_SameSteps.f k t232 y241).bind fun t244 => (if t244 = true then (if t239 = 2 then (some (t240 == 0)) else (some false)) else (some false))) = some r := by first | (rw [hy241]; with_reducible exact H) | (have H2_ := (Option.bind_some _ _).symm.trans H; rw [hy241]; with_reducible exact H2_) | (have H2_ := (Option.bind_some _ _).symm.trans H; with_reducible exact H2_) | with_reducible exact H | (rw [hy241]; exact H) | exact H
        have Ny241 := Aside0.mk hy241
        clear hy241
        replace H := Option.bind_eq_some_iff.mp H
        obtain ⟨t244, A70, H⟩ := H
        replace H : (if t244 = true then (if t239 = 2 then (some (t240 == 0)) else (some false)) else (some false)) = some r := H
        have A7 := Aside0.mk A70
        clear A70
        by_cases c8 : t244 = true
        · subst c8
          have H1 : (if t239 = 2 then (some (t240 == 0)) else (some false)) = some r := by rw [if_pos rfl] at H; exact H
          clear H
          have H := H1
          clear H1
          by_cases c9 : t239 = 2
          · rw [if_pos c9] at H
            have c9b0 : (t239 == 2) = true := beq_iff_eq.mpr c9
            have c9b1 : (t239 != 2) = false := bne_eq_false_iff_eq.mpr c9
            clear c9
            obtain rfl := Option.some.inj H
            go_enter Try.func17, Try.ntmps17
            go_wp2_with (first | ((with_reducible refine gate_dst (N := 12) rfl ?_); (try (refine gate_guard (by rfl) ?_; dsimp only)); refine Kd.R_lit k45 _ 45 ?hg (N := 12) ?hd (xs := ([(⟨2, (⟨#[65]⟩ : ByteArray)⟩ : S45), (⟨1, (⟨#[49]⟩ : ByteArray)⟩ : S45), (⟨7, (⟨#[]⟩ : ByteArray)⟩ : S45)] : List (S45))) (inner := [.int .i64 2, .string (⟨#[65]⟩ : ByteArray), .int .i64 1, .string (⟨#[49]⟩ : ByteArray), .int .i64 7, .string (⟨#[]⟩ : ByteArray)]) (ok := fun _ => True) (okp := fun _ => True) ?hr ?hp (fun _ hk => hk) trivial (Below.refl _ _) (Nat.le_refl _) (by simp) ?_; (case hd => rfl); (case hg => rfl); (case hr => first | (go_simp; done) | (go_simp; rfl)); (case hp => exact (Reps.c2 (show Kd.M k45 _ _ _ (⟨2, (⟨#[65]⟩ : ByteArray)⟩ : S45) [.int .i64 2, .string (⟨#[65]⟩ : ByteArray)] from (k45_mkM _ _ _ (⟨2, (⟨#[65]⟩ : ByteArray)⟩ : S45) )) (Reps.c2 (show Kd.M k45 _ _ _ (⟨1, (⟨#[49]⟩ : ByteArray)⟩ : S45) [.int .i64 1, .string (⟨#[49]⟩ : ByteArray)] from (k45_mkM _ _ _ (⟨1, (⟨#[49]⟩ : ByteArray)⟩ : S45) )) (Reps.c2 (show Kd.M k45 _ _ _ (⟨7, (⟨#[]⟩ : ByteArray)⟩ : S45) [.int .i64 7, .string (⟨#[]⟩ : ByteArray)] from (k45_mkM _ _ _ (⟨7, (⟨#[]⟩ : ByteArray)⟩ : S45) )) (Reps.none _ _))))); intro v225 w10 ho11 hb hg_ hnew_; clear hg_ hnew_; (first | rw [← Ny224.out] at ho11 | (simp only [Int.reduceToNat] at ho11; rw [← Ny224.out] at ho11)); have n0_ := Aside0.mk (Kd.R_lower ho11 (below_size (by repeat (first | (with_reducible first | exact HB.out | apply below_alloc | apply pw_below_drewN | apply below_drew1) | exact HB.out)))); have n1_ := Aside0.mk (below_step (by repeat (first | (with_reducible first | exact HB.out | apply below_alloc | apply pw_below_drewN | apply below_drew1) | exact HB.out)) hb); clear HB; have HO226 := n0_; have HB := n1_; clear n0_ n1_; clear hb ho11) | ((with_reducible refine gate_dst (N := 14) rfl ?_); (try (refine gate_guard (by rfl) ?_; dsimp only)); refine Kd.R_lit k56 _ 56 ?hg (N := 14) ?hd (xs := ([(⟨(⟨#[65]⟩ : ByteArray), (⟨#[49]⟩ : ByteArray)⟩ : S56)] : List (S56))) (inner := [.string (⟨#[65]⟩ : ByteArray), .string (⟨#[49]⟩ : ByteArray)]) (ok := fun _ => True) (okp := fun _ => True) ?hr ?hp (fun _ hk => hk) trivial (Below.refl _ _) (Nat.le_refl _) (by simp) ?_; (case hd => rfl); (case hg => rfl); (case hr => first | (go_simp; done) | (go_simp; rfl)); (case hp => exact (Reps.c2 (show Kd.M k56 _ _ _ (⟨(⟨#[65]⟩ : ByteArray), (⟨#[49]⟩ : ByteArray)⟩ : S56) [.string (⟨#[65]⟩ : ByteArray), .string (⟨#[49]⟩ : ByteArray)] from (k56_mkM _ _ _ (⟨(⟨#[65]⟩ : ByteArray), (⟨#[49]⟩ : ByteArray)⟩ : S56) )) (Reps.none _ _))); intro v228 w12 ho13 hb hg_ hnew_; clear hg_ hnew_; (first | rw [← Ny227.out] at ho13 | (simp only [Int.reduceToNat] at ho13; rw [← Ny227.out] at ho13)); have n0_ := Aside0.mk (Kd.R_below (by (with_reducible repeat (first | apply Kd.R_alloc | apply Kd.R_drewN | apply Kd.R_drew)); exact HO226.out) hb); have n1_ := Aside0.mk (Kd.R_lower ho13 (below_size (by repeat (first | (with_reducible first | exact HB.out | apply below_alloc | apply pw_below_drewN | apply below_drew1) | exact HB.out)))); have n2_ := Aside0.mk (below_step (by repeat (first | (with_reducible first | exact HB.out | apply below_alloc | apply pw_below_drewN | apply below_drew1) | exact HB.out)) hb); clear HO226; clear HB; have HO226 := n0_; have HO229 := n1_; have HB := n2_; clear n0_ n1_ n2_; clear hb ho13; obtain ⟨Ao14, co14, eo14⟩ := Kd.R_slice HO226.out; subst eo14; obtain ⟨Ao15, co15, eo15⟩ := Kd.R_slice HO229.out; subst eo15) | ((with_reducible refine gate_callee (f := 14) rfl ?_); refine goesL_ (some 18) rfl rfl Try.func14 (by kernel_rfl) rfl #[.slice Ao14 y224.length co14, .slice Ao15 y227.length co15] rfl (by (try simp only [List.map_toArray, List.map_cons, List.map_nil]); first | done | rfl | (simp only [List.length_drop, List.length_take]; rfl)) ?_; (with_reducible refine (rule_Eval.calls _ _ y224 _ _ y227 true t231 _ ?side1 ?side2 ?side3 ?side4 A1.out).mono ?_); (case side1 => repeat (first | exact (Kd.R_reads' HO226.out).2.2 | (with_reducible refine Kd.C_alloc ?_ _) | (with_reducible refine Kd.C_drewN ?_ _) | (with_reducible refine Kd.C_drew ?_))); (case side2 => exact (Kd.R_reads' HO226.out).2.1); (case side3 => repeat (first | exact (Kd.R_reads' HO229.out).2.2 | (with_reducible refine Kd.C_alloc ?_ _) | (with_reducible refine Kd.C_drewN ?_ _) | (with_reducible refine Kd.C_drew ?_))); (case side4 => exact (Kd.R_reads' HO229.out).2.1); rintro e w16 ⟨rfl, hb⟩; refine ⟨_, rfl, ?_⟩; have n0_ := Aside0.mk (Kd.R_below (by (with_reducible repeat (first | apply Kd.R_alloc | apply Kd.R_drewN | apply Kd.R_drew)); exact HO226.out) hb); have n1_ := Aside0.mk (Kd.R_below (by (with_reducible repeat (first | apply Kd.R_alloc | apply Kd.R_drewN | apply Kd.R_drew)); exact HO229.out) hb); have n2_ := Aside0.mk (below_step (by repeat (first | (with_reducible first | exact HB.out | apply below_alloc | apply pw_below_drewN | apply below_drew1) | exact HB.out)) hb); clear HO226; clear HO229; clear HB; have HO226 := n0_; have HO229 := n1_; have HB := n2_; clear n0_ n1_ n2_; (try clear hb); (try clear hb2); (try clear hk); (try clear hi)) | ((with_reducible refine gate_callee (f := 19) rfl ?_); refine goesL_ (some 24) rfl rfl Try.func19 (by kernel_rfl) rfl #[.slice Ao14 y224.length co14, .slice Ao15 y227.length co15] rfl (by (try simp only [List.map_toArray, List.map_cons, List.map_nil]); first | done | rfl | (simp only [List.length_drop, List.length_take]; rfl)) ?_; (with_reducible refine (rule_FoldK.calls k _ _ y224 _ _ y227 t232 t233 _ ?side1 ?side2 ?side3 ?side4 A2.out).mono ?_); (case side1 => repeat (first | exact (Kd.R_reads' HO226.out).2.2 | (with_reducible refine Kd.C_alloc ?_ _) | (with_reducible refine Kd.C_drewN ?_ _) | (with_reducible refine Kd.C_drew ?_))); (case side2 => exact (Kd.R_reads' HO226.out).2.1); (case side3 => repeat (first | exact (Kd.R_reads' HO229.out).2.2 | (with_reducible refine Kd.C_alloc ?_ _) | (with_reducible refine Kd.C_drewN ?_ _) | (with_reducible refine Kd.C_drew ?_))); (case side4 => exact (Kd.R_reads' HO229.out).2.1); rintro e w17 ⟨v234, rfl, ho0, hb⟩; refine ⟨_, rfl, ?_⟩; have n0_ := Aside0.mk (Kd.R_elder' (by (with_reducible repeat (first | apply Kd.R_alloc | apply Kd.R_drewN | apply Kd.R_drew)); exact HO226.out) (Kd.R_base ho0) hb); have n1_ := Aside0.mk (Kd.R_below (by (with_reducible repeat (first | apply Kd.R_alloc | apply Kd.R_drewN | apply Kd.R_drew)); exact HO229.out) hb); have n2_ := Aside0.mk (Kd.R_lower (Kd.R_new' ho0 (Kd.R_lt (by (with_reducible repeat (first | apply Kd.R_alloc | apply Kd.R_drewN | apply Kd.R_drew)); exact HO226.out))) (below_size (by repeat (first | (with_reducible first | exact HB.out | apply below_alloc | apply pw_below_drewN | apply below_drew1) | exact HB.out)))); have n3_ := Aside0.mk (below_step (by repeat (first | (with_reducible first | exact HB.out | apply below_alloc | apply pw_below_drewN | apply below_drew1) | exact HB.out)) hb); clear HO226; clear HO229; clear HB; have HO226 := n0_; have HO229 := n1_; have HO235 := n2_; have HB := n3_; clear n0_ n1_ n2_ n3_; (try clear hb); (try clear hb2); (try clear hk); (try clear hi); (try clear ho0)) | ((with_reducible refine gate_dst (N := 30) rfl ?_); (try (refine gate_guard (by rfl) ?_; dsimp only)); refine Kd.N_lit k48 _ 48 ?hg (N' := 30) ?hd (xs := ([(⟨y224, 2⟩ : S48)] : List (S48))) (inner := [.slice Ao14 y224.length co14, .int .i64 2]) (ok := (fun k_ => some k_ ≠ (.slice Ao15 y227.length co15 : Value).ownBlock ∧ some k_ ≠ (v234 : Value).ownBlock)) (okp := (fun k_ => some k_ ≠ (.slice Ao15 y227.length co15 : Value).ownBlock ∧ some k_ ≠ (v234 : Value).ownBlock)) ?hr ?hp (fun _ hk => hk) ((show ∀ k_, w17.heap.size ≤ k_ → (fun k_ => some k_ ≠ (.slice Ao15 y227.length co15 : Value).ownBlock ∧ some k_ ≠ (v234 : Value).ownBlock) k_ from fun k_ hk => ⟨Kd.fresh' (Kd.R_lt (by (with_reducible repeat (first | apply Kd.R_alloc | apply Kd.R_drewN | apply Kd.R_drew)); exact HO229.out)) k_ hk, Kd.fresh' (Kd.R_lt (by (with_reducible repeat (first | apply Kd.R_alloc | apply Kd.R_drewN | apply Kd.R_drew)); exact HO235.out)) k_ hk⟩) _ (Nat.le_refl _)) (Below.refl _ _) (Nat.le_refl _) (by simp) ?_; (case hd => rfl); (case hg => rfl); (case hr => first | (go_simp; done) | (go_simp; rfl)); (case hp => exact (Reps.c2 (show Kd.FK k48 _ _ (⟨y224, 2⟩ : S48) [.slice Ao14 y224.length co14, .int .i64 2] from (k48_mkF _ _ (⟨y224, 2⟩ : S48) (Kd.R_reads' (Kd.R_mono (ok' := (fun k_ => some k_ ≠ (.slice Ao15 y227.length co15 : Value).ownBlock ∧ some k_ ≠ (v234 : Value).ownBlock)) (Kd.R_apart' (HO226.out) (Kd.R_typed HO229.out) (by decide)) (fun k_ hk => ⟨hk.2, hk.1.2⟩))).2.1 (Kd.R_F (Kd.R_mono (ok' := (fun k_ => some k_ ≠ (.slice Ao15 y227.length co15 : Value).ownBlock ∧ some k_ ≠ (v234 : Value).ownBlock)) (Kd.R_apart' (HO226.out) (Kd.R_typed HO229.out) (by decide)) (fun k_ hk => ⟨hk.2, hk.1.2⟩))))) (Reps.none _ _))); intro v237 w18 ho19 hb hg_ hnew_; clear hg_ hnew_; (first | rw [← Ny236.out] at ho19 | (simp only [Int.reduceToNat] at ho19; rw [← Ny236.out] at ho19)); have n0_ := Aside0.mk (Kd.R_below (by (with_reducible repeat (first | apply Kd.R_alloc | apply Kd.R_drewN | apply Kd.R_drew)); exact HO229.out) hb); have n1_ := Aside0.mk (Kd.R_below (by (with_reducible repeat (first | apply Kd.R_alloc | apply Kd.R_drewN | apply Kd.R_drew)); exact HO235.out) hb); have n2_ := Aside0.mk (Kd.N_lower ho19 (below_size (by repeat (first | (with_reducible first | exact HB.out | apply below_alloc | apply pw_below_drewN | apply below_drew1) | exact HB.out)))); have n3_ := Aside0.mk (below_step (by repeat (first | (with_reducible first | exact HB.out | apply below_alloc | apply pw_below_drewN | apply below_drew1) | exact HB.out)) hb); clear HO229; clear HO235; clear HB; clear HO226; have HO229 := n0_; have HO235 := n1_; have HO238 := n2_; have HB := n3_; clear n0_ n1_ n2_ n3_; clear hb ho19; obtain ⟨Ao20, co20, eo20⟩ := Kd.N_slice HO238.out; subst eo20) | ((with_reducible refine gate_callee (f := 26) rfl ?_); refine goesL_ (some 32) rfl rfl Try.func26 (by kernel_rfl) rfl #[.slice Ao20 y236.length co20, .int .i64 0, .slice Ao15 y227.length co15] rfl (by (try simp only [List.map_toArray, List.map_cons, List.map_nil]); first | done | rfl | (simp only [List.length_drop, List.length_take]; rfl)) ?_; (with_reducible refine (rule_When.calls k _ _ y236 0 _ _ y227 t239 t240 _ ?side1 ?side2 ?side3 ?side4 A3.out).mono ?_); (case side1 => repeat (first | exact (Kd.N_reads' HO238.out).2.2 | (with_reducible refine Kd.C_alloc ?_ _) | (with_reducible refine Kd.C_drewN ?_ _) | (with_reducible refine Kd.C_drew ?_))); (case side2 => exact (Kd.N_reads' HO238.out).2.1); (case side3 => repeat (first | exact (Kd.R_reads' HO229.out).2.2 | (with_reducible refine Kd.C_alloc ?_ _) | (with_reducible refine Kd.C_drewN ?_ _) | (with_reducible refine Kd.C_drew ?_))); (case side4 => exact (Kd.R_reads' HO229.out).2.1); rintro e w21 ⟨rfl, hb⟩; refine ⟨_, rfl, ?_⟩; have n0_ := Aside0.mk (Kd.R_below (by (with_reducible repeat (first | apply Kd.R_alloc | apply Kd.R_drewN | apply Kd.R_drew)); exact HO229.out) hb); have n1_ := Aside0.mk (Kd.R_below (by (with_reducible repeat (first | apply Kd.R_alloc | apply Kd.R_drewN | apply Kd.R_drew)); exact HO235.out) hb); have n2_ := Aside0.mk (Kd.N_below (by (with_reducible repeat (first | apply Kd.N_alloc | apply Kd.N_drewN | apply Kd.N_drew)); exact HO238.out) hb); have n3_ := Aside0.mk (below_step (by repeat (first | (with_reducible first | exact HB.out | apply below_alloc | apply pw_below_drewN | apply below_drew1) | exact HB.out)) hb); clear HO229; clear HO235; clear HO238; clear HB; have HO229 := n0_; have HO235 := n1_; have HO238 := n2_; have HB := n3_; clear n0_ n1_ n2_ n3_; (try clear hb); (try clear hb2); (try clear hk); (try clear hi)) | ((with_reducible refine gate_dst (N := 47) rfl ?_); (try (refine gate_guard (by rfl) ?_; dsimp only)); refine Kd.R_lit k45 _ 45 ?hg (N := 47) ?hd (xs := ([(⟨4, (⟨#[]⟩ : ByteArray)⟩ : S45)] : List (S45))) (inner := [.int .i64 4, .string (⟨#[]⟩ : ByteArray)]) (ok := fun _ => True) (okp := fun _ => True) ?hr ?hp (fun _ hk => hk) trivial (Below.refl _ _) (Nat.le_refl _) (by simp) ?_; (case hd => rfl); (case hg => rfl); (case hr => first | (go_simp; done) | (go_simp; rfl)); (case hp => exact (Reps.c2 (show Kd.M k45 _ _ _ (⟨4, (⟨#[]⟩ : ByteArray)⟩ : S45) [.int .i64 4, .string (⟨#[]⟩ : ByteArray)] from (k45_mkM _ _ _ (⟨4, (⟨#[]⟩ : ByteArray)⟩ : S45) )) (Reps.none _ _))); intro v242 w22 ho23 hb hg_ hnew_; clear hg_ hnew_; (first | rw [← Ny241.out] at ho23 | (simp only [Int.reduceToNat] at ho23; rw [← Ny241.out] at ho23)); have n0_ := Aside0.mk (Kd.R_below (by (with_reducible repeat (first | apply Kd.R_alloc | apply Kd.R_drewN | apply Kd.R_drew)); exact HO229.out) hb); have n1_ := Aside0.mk (Kd.R_elder' (by (with_reducible repeat (first | apply Kd.R_alloc | apply Kd.R_drewN | apply Kd.R_drew)); exact HO235.out) (Kd.R_base ho23) hb); have n2_ := Aside0.mk (Kd.N_elder' (by (with_reducible repeat (first | apply Kd.N_alloc | apply Kd.N_drewN | apply Kd.N_drew)); exact HO238.out) (Kd.R_base ho23) hb); have n3_ := Aside0.mk (Kd.R_lower (Kd.R_new' ho23 (Kd.R_lt (by (with_reducible repeat (first | apply Kd.R_alloc | apply Kd.R_drewN | apply Kd.R_drew)); exact HO235.out))) (below_size (by repeat (first | (with_reducible first | exact HB.out | apply below_alloc | apply pw_below_drewN | apply below_drew1) | exact HB.out)))); have n4_ := Aside0.mk (below_step (by repeat (first | (with_reducible first | exact HB.out | apply below_alloc | apply pw_below_drewN | apply below_drew1) | exact HB.out)) hb); clear HO229; clear HO235; clear HO238; clear HB; have HO229 := n0_; have HO235 := n1_; have HO238 := n2_; have HO243 := n3_; have HB := n4_; clear n0_ n1_ n2_ n3_ n4_; clear hb ho23; obtain ⟨Ao24, co24, eo24⟩ := Kd.R_slice HO235.out; subst eo24; obtain ⟨Ao25, co25, eo25⟩ := Kd.R_slice HO243.out; subst eo25) | (go_at_call 22; (with_reducible refine (shuttlelaw0_SameSteps.calls k _ _ t232 _ _ y241 true _ ?side1 ?side2 ?side3 ?side4 A7.out).mono ?_); (case side1 => repeat (first | exact (Kd.R_reads' HO235.out).2.2 | (with_reducible refine Kd.C_alloc ?_ _) | (with_reducible refine Kd.C_drewN ?_ _) | (with_reducible refine Kd.C_drew ?_))); (case side2 => exact (Kd.R_reads' HO235.out).2.1); (case side3 => repeat (first | exact (Kd.R_reads' HO243.out).2.2 | (with_reducible refine Kd.C_alloc ?_ _) | (with_reducible refine Kd.C_drewN ?_ _) | (with_reducible refine Kd.C_drew ?_))); (case side4 => exact (Kd.R_reads' HO243.out).2.1); rintro e w' ⟨rfl, ⟨nd, rfl⟩⟩))
            go_ret
            exact ⟨by first | rfl | (simp [errW_none, errW_some] <;> rfl) | (simp [*, errW_none, errW_some] <;> rfl), by repeat (first | (with_reducible first | exact HB.out | apply below_alloc | apply pw_below_drewN | apply below_drew1) | exact HB.out)⟩
          · rw [if_neg c9] at H; exact absurd ((Option.some.inj H).trans hT.out) (by decide)
        · rw [if_neg c8] at H; exact absurd ((Option.some.inj H).trans hT.out) (by decide)
      · rw [if_neg c6] at H; exact absurd ((Option.some.inj H).trans hT.out) (by decide)
    · rw [if_neg c5] at H; exact absurd ((Option.some.inj H).trans hT.out) (by decide)
  · rw [if_neg c4] at H; exact absurd ((Option.some.inj H).trans hT.out) (by decide)

theorem awakeK40 : shuttlelaw12_awakeK.f 40 = some true := by decide +kernel
theorem awake0 (w : World) : Calls Try.prog 17 #[] w fun e w' => e = .returned (.bool true) ∧ Below w.heap.size w w' := shuttlelaw12_awakeK.callsT 40 true ⟨rfl⟩ w awakeK40
end Go.Proofs.Ytinhlaiogkmkfaa.PA.K
