/- Texts of this claim, joined: words and laws that the others use. -/
import Derived.Test.YtinhlaiogkmkfaaQPAx0
import Derived.Test.YtinhlaiogkmkfaaQPAx3
import Derived.Test.YtinhlaiogkmkfaaQPAx8
import Derived.Test.YtinhlaiogkmkfaaQVc
import Derived.Test.YtinhlaiogkmkfaaQWLast
import Derived.OpenShut
import Derived.SizedLaws
import Derived.DataReads
import Derived.Test.YtinhlaiogkmkfaaQGg
import Derived.Test.YtinhlaiogkmkfaaQPAx1
import Derived.Test.YtinhlaiogkmkfaaQPAx7
section
-- Printed by a program of this session over the kit's print, with contracts of this session's own. Not trusted: Lean checks it.
namespace Go.Proofs.Ytinhlaiogkmkfaa.PA
open Go.RowKit Go.Proofs.YtinhlaiogkmkfaaW.PrintWords Go.Proofs.YtinhlaiogkmkfaaW.PrintLast Go.Proofs.YtinhlaiogkmkfaaW.PrintMore
attribute [local go_sem] max2_int min2_int max_two min_two max_three min_three max_four min_four   -- for this text's walks alone
set_option linter.unusedVariables false
set_option linter.unusedSimpArgs false

/-! ### shuttlelaw0_CopyRules: function 25 -/
def shuttlelaw0_CopyRules.l0 : Nat → List (S48) → List (S48) → Int → Option ((List (S48)))
  | 0, _, _, _ => none
  | k + 1, x0, x3, x4 => if x4 < (x0.length : Int) then (if 0 ≤ x4 then ((shuttlelaw0_CopySteps.f ((rd_T48 x0 x4).f0)).bind fun t410 => (if x3.length < 4398046511104 then (shuttlelaw0_CopyRules.l0 k x0 (x3 ++ [(⟨t410, (rd_T48 x0 x4).f1⟩ : S48)]) (wrap64 (x4 + 1))) else (none))) else (none)) else (some x3)
def shuttlelaw0_CopyRules.f (k : Nat) (l0 : List (S48)) : Option ((List (S48))) := shuttlelaw0_CopyRules.l0 k l0 ([] : List (S48)) 0
def shuttlelaw0_CopyRules.T5 : Bool × List (List Nat × List Nat) := (true, [([], []), ([], []), ([], []), ([1, 2], [1, 2]), ([3], [3]), ([4], [4]), ([5], [5]), ([], []), ([], []), ([7, 8], [7, 8]), ([9], [9]), ([10], [10]), ([6, 11], [6, 11]), ([12], [12]), ([0, 13, 6], [0, 13]), ([14, 14, 0, 1, 2, 3, 4, 5, 6, 7, 8, 9, 10, 11, 12, 13, 14], [0, 14])])
def shuttlelaw0_CopyRules.B5 : List Nat := [0, 0, 0, 6, 14, 30, 62, 0, 0, 384, 896, 1920, 4094, 8190, 16383, 32767]
theorem shuttlelaw0_CopyRules.tab5 : rtab .any (opsOf Try.f25 5) = shuttlelaw0_CopyRules.T5 := by kernel_rfl
theorem shuttlelaw0_CopyRules.bits5 : waitsOk shuttlelaw0_CopyRules.T5.2 shuttlelaw0_CopyRules.B5 = true := by kernel_rfl
set_option maxHeartbeats 8000000 in
set_option maxRecDepth 100000 in
theorem shuttlelaw0_CopyRules.calls (k : Nat) (A0 : Option Addr) (c0 : Nat) (l0 : List (S48)) (r : List (S48)) (w : World) (hr0 : Kd.C k48 w A0 l0.length l0) (hc0 : l0.length ≤ c0) (h : shuttlelaw0_CopyRules.f k l0 = some r) :
    Calls Try.prog 25 #[.slice A0 l0.length c0] w fun e w' => ∃ v0_ : Value, e = .returned (v0_) ∧ Kd.S k48 48 w' w.heap.size (fun _ => True) v0_ r ∧ Below w.heap.size w w' := by
  have hu48 := Try.underlying48
  have HR0 := Aside0.mk hr0
  have HC0 := Aside0.mk hc0
  clear hr0 hc0
  have HB := Aside0.mk (Below.refl w.heap.size w)
  have H : (shuttlelaw0_CopyRules.l0 k l0 ([] : List (S48)) 0) = some r := h
  clear h
  have H' := Aside0.mk H
  clear H
  go_enter Try.func25, Try.ntmps25
  go_wp2
  go_loopg [3, 4] k (fun kq v3 v4 w' => ∃ (x3_1 : List (S48)) (x4_1 : Int), v4 = .int .i64 x4_1 ∧ Aside0 (shuttlelaw0_CopyRules.l0 kq l0 x3_1 x4_1 = some r) ∧ Aside0 (kq ≤ k) ∧ Aside0 (Kd.S k48 48 w' w.heap.size (fun _ => True) v3 x3_1) ∧ Aside0 (Below w.heap.size w w'))
  case atStart => exact ⟨(([] : List (S48))), (0), (by first | rfl | (simp; done) | (simp [*]; done)), H', ⟨Nat.le_refl _⟩, ⟨by first | exact Kd.S_nil _ _ _ _ _ | exact Kd.N_nil _ _ _ _ _ | exact Kd.V_nil _ _ _ _ _ | exact Kd.Q_nil _ _ _ _ _ | exact Kd.R_nil _ _ _ _ _⟩, ⟨by repeat (first | (with_reducible first | exact HB.out | apply below_alloc | apply pw_below_drewN | apply below_drew1) | exact HB.out)⟩⟩
  case round =>
    clear H'
    obtain ⟨x3_1, x4_1, rfl, HA, HK1, HO_3, HB⟩ := hrel
    cases gk with
    | zero => exact absurd HA.out (by simp [shuttlelaw0_CopyRules.l0])
    | succ k1 =>
      have H := HA.out
      clear HA
      simp only [shuttlelaw0_CopyRules.l0] at H
      by_cases c2 : x4_1 < (l0.length : Int)
      · rw [if_pos c2] at H
        have c2b0 : decide (x4_1 < (l0.length : Int)) = true := decide_eq_true c2
        clear c2
        by_cases c3 : 0 ≤ x4_1
        · rw [if_pos c3] at H
          have c3b0 : decide (0 ≤ x4_1) = true := decide_eq_true c3
          clear c3
          replace H := Option.bind_eq_some_iff.mp H
          obtain ⟨t410, A40, H⟩ := H
          replace H : (if x3_1.length < 4398046511104 then (shuttlelaw0_CopyRules.l0 k1 l0 (x3_1 ++ [(⟨t410, (rd_T48 l0 x4_1).f1⟩ : S48)]) (wrap64 (x4_1 + 1))) else (none)) = some r := H
          have A4 := Aside0.mk A40
          clear A40
          by_cases c5 : x3_1.length < 4398046511104
          · rw [if_pos c5] at H
            have LMc5 := Aside0.mk c5
            clear c5
            obtain ⟨y414, hy414⟩ : ∃ y_ : List (S48), y_ = (x3_1 ++ [(⟨t410, (rd_T48 l0 x4_1).f1⟩ : S48)]) := ⟨_, rfl⟩
            replace H : (shuttlelaw0_CopyRules.l0 k1 l0 y414 (wrap64 (x4_1 + 1))) = some r := by first | (rw [hy414]; with_reducible exact H) | (have H2_ := (Option.bind_some _ _).symm.trans H; rw [hy414]; with_reducible exact H2_) | (have H2_ := (Option.bind_some _ _).symm.trans H; with_reducible exact H2_) | with_reducible exact H | (rw [hy414]; exact H) | exact H
            have Ny414 := Aside0.mk hy414
            clear hy414
            have H' := Aside0.mk H
            clear H
            try go_wp2
            have n0_ := Aside0.mk (Kd.S_drew HO_3.out)
            have n1_ := Aside0.mk (below_drew1 HB.out)
            clear HO_3
            clear HB
            have HO_3 := n0_
            have HB := n1_
            clear n0_ n1_
            have p409 : 0 ≤ (x4_1 : Int) := of_decide_eq_true (by first | (with_reducible assumption) | assumption)
            have q409 : x4_1 < (l0.length : Int) := of_decide_eq_true (by first | (with_reducible assumption) | assumption)
            obtain ⟨ad409, A409_0, c409_0, e409, hx409_0, hx409_1, hl409_0, hi409_0⟩ := at_T48 HR0.out x4_1 p409 q409
            have hw409_1 := hx409_1
            have hw409_0 := hx409_0
            cases e409
            replace hx409_0 := (HB.out.cell (World.block_lt_of_cell? w _ hx409_0)).trans hx409_0
            replace hx409_1 := (HB.out.cell (World.block_lt_of_cell? w _ hx409_1)).trans hx409_1
            have HR409_0 := Aside0.mk hi409_0
            have HC409_0 := Aside0.mk hl409_0
            clear hi409_0 hl409_0
            replace p409 := eq_true p409
            replace q409 := eq_true q409
            have p413 : 0 ≤ (x4_1 : Int) := of_decide_eq_true (by first | (with_reducible assumption) | assumption)
            have q413 : x4_1 < (l0.length : Int) := of_decide_eq_true (by first | (with_reducible assumption) | assumption)
            obtain ⟨ad413, A413_0, c413_0, e413, hx413_0, hx413_1, hl413_0, hi413_0⟩ := at_T48 HR0.out x4_1 p413 q413
            have hw413_1 := hx413_1
            have hw413_0 := hx413_0
            obtain rfl : ad409 = ad413 := (by injection e413)
            replace hx413_0 := (HB.out.cell (World.block_lt_of_cell? w _ hx413_0)).trans hx413_0
            replace hx413_1 := (HB.out.cell (World.block_lt_of_cell? w _ hx413_1)).trans hx413_1
            have HR413_0 := Aside0.mk hi413_0
            have HC413_0 := Aside0.mk hl413_0
            clear hi413_0 hl413_0
            replace p413 := eq_true p413
            replace q413 := eq_true q413
            have ea_ := Option.some.inj (hx409_0.symm.trans hx413_0)
            injection ea_ with ea_ en_ ec_
            subst ea_
            subst ec_
            clear en_
            refine start_ (n := 16) (S := fun w' => w'.cell? (ad409.add ((x4_1).toNat * 2)) = some (.slice A409_0 ((rd_T48 l0 x4_1).f0).length c409_0) ∧ w'.cell? ⟨(ad409.add ((x4_1).toNat * 2)).block, (ad409.add ((x4_1).toNat * 2)).off + 1, none⟩ = some (.int .i64 ((rd_T48 l0 x4_1).f1)) ∧ w'.cell? (ad409.add ((x4_1).toNat * 2)) = some (.slice A409_0 ((rd_T48 l0 x4_1).f0).length c409_0) ∧ w'.cell? ⟨(ad409.add ((x4_1).toNat * 2)).block, (ad409.add ((x4_1).toNat * 2)).off + 1, none⟩ = some (.int .i64 ((rd_T48 l0 x4_1).f1))) (ds := []) #[false, false, false, false, false, false, false, false, false, false, false, false, false, false, false, false] (by kernel_rfl) rfl rfl ⟨((HB.out.cell (World.block_lt_of_cell? w _ hw409_0)).trans hw409_0), ((HB.out.cell (World.block_lt_of_cell? w _ hw409_1)).trans hw409_1), ((HB.out.cell (World.block_lt_of_cell? w _ hw413_0)).trans hw413_0), ((HB.out.cell (World.block_lt_of_cell? w _ hw413_1)).trans hw413_1)⟩ (fun hHeld => ?_); refine with_tabW shuttlelaw0_CopyRules.tab5 shuttlelaw0_CopyRules.bits5 (fun HT_ HW_ => ?_)
            generalize wr.drew = w6 at HO_3 HB HR409_0 HR413_0 hx409_0 hx409_1 hx413_0 hx413_1 hHeld ⊢
            refine pure_ (i := 0) (N := some 11) (v := ?_) (a' := ?_) #[true, false, false, false, false, false, false, false, false, false, false, false, false, false, false, false] rfl rfl (any_of HT_.out (by kernel_rfl)) (fun _ _ _ h => h) (Or.inl ⟨by rfl, ?_⟩) ?_ ?_
            rotate_left
            · intro w'
              go_simp
              with_reducible rfl
            rotate_left
            · simp only [Act.put, List.setIfInBounds_toArray, List.set_cons_zero, List.set_cons_succ, i64_w, i32_w]
              rfl
            refine pure_ (i := 1) (N := some 12) (v := ?_) (a' := ?_) #[true, true, false, false, false, false, false, false, false, false, false, false, false, false, false, false] rfl rfl (any_of HT_.out (by kernel_rfl)) (fun _ _ _ h => h) (Or.inl ⟨by rfl, ?_⟩) ?_ ?_
            rotate_left
            · intro w'
              go_simp
              with_reducible rfl
            rotate_left
            · simp only [Act.put, List.setIfInBounds_toArray, List.set_cons_zero, List.set_cons_succ, i64_w, i32_w]
              rfl
            refine pure_ (i := 2) (N := some 13) (v := ?_) (a' := ?_) #[true, true, true, false, false, false, false, false, false, false, false, false, false, false, false, false] rfl rfl (any_of HT_.out (by kernel_rfl)) (fun _ _ _ h => h) (Or.inl ⟨by rfl, ?_⟩) ?_ ?_
            rotate_left
            · intro w'
              go_simp
              with_reducible rfl
            rotate_left
            · simp only [Act.put, List.setIfInBounds_toArray, List.set_cons_zero, List.set_cons_succ, i64_w, i32_w]
              rfl
            refine pure_ (i := 3) (N := some 14) (v := ?_) (a' := ?_) #[true, true, true, true, false, false, false, false, false, false, false, false, false, false, false, false] rfl rfl (any_of HT_.out (by kernel_rfl)) (fun _ _ _ h => h) (Or.inl ⟨by rfl, ?_⟩) ?_ ?_
            rotate_left
            · intro w'
              go_simp
              with_reducible rfl
            rotate_left
            · simp only [Act.put, List.setIfInBounds_toArray, List.set_cons_zero, List.set_cons_succ, i64_w, i32_w]
              rfl
            refine pure_ (i := 4) (N := some 15) (v := ?_) (a' := ?_) #[true, true, true, true, true, false, false, false, false, false, false, false, false, false, false, false] rfl rfl (any_of HT_.out (by kernel_rfl)) (fun _ _ _ h => h) (Or.inl ⟨by rfl, ?_⟩) ?_ ?_
            rotate_left
            · intro w'
              go_simp
              with_reducible rfl
            rotate_left
            · simp only [Act.put, List.setIfInBounds_toArray, List.set_cons_zero, List.set_cons_succ, i64_w, i32_w]
              rfl
            refine pure_ (i := 7) (N := some 18) (v := ?_) (a' := ?_) #[true, true, true, true, true, false, false, true, false, false, false, false, false, false, false, false] rfl rfl (any_of HT_.out (by kernel_rfl)) (fun _ _ _ h => h) (Or.inl ⟨by rfl, ?_⟩) ?_ ?_
            rotate_left
            · intro w'
              go_simp
              with_reducible rfl
            rotate_left
            · simp only [Act.put, List.setIfInBounds_toArray, List.set_cons_zero, List.set_cons_succ, i64_w, i32_w]
              rfl
            refine pure_ (i := 8) (N := some 19) (v := ?_) (a' := ?_) #[true, true, true, true, true, false, false, true, true, false, false, false, false, false, false, false] rfl rfl (any_of HT_.out (by kernel_rfl)) (fun _ _ _ h => h) (Or.inl ⟨by rfl, ?_⟩) ?_ ?_
            rotate_left
            · intro w'
              go_simp
              with_reducible rfl
            rotate_left
            · simp only [Act.put, List.setIfInBounds_toArray, List.set_cons_zero, List.set_cons_succ, i64_w, i32_w]
              rfl
            refine pure_ (i := 9) (N := some 20) (v := ?_) (a' := ?_) #[true, true, true, true, true, false, false, true, true, true, false, false, false, false, false, false] rfl rfl (any_of HT_.out (by kernel_rfl)) (fun _ _ _ h => h) (Or.inl ⟨by rfl, ?_⟩) ?_ ?_
            rotate_left
            · intro w'
              go_simp
              with_reducible rfl
            rotate_left
            · simp only [Act.put, List.setIfInBounds_toArray, List.set_cons_zero, List.set_cons_succ, i64_w, i32_w]
              rfl
            refine pure_ (i := 10) (N := some 21) (v := ?_) (a' := ?_) #[true, true, true, true, true, false, false, true, true, true, true, false, false, false, false, false] rfl rfl (any_of HT_.out (by kernel_rfl)) (fun _ _ _ h => h) (Or.inl ⟨by rfl, ?_⟩) ?_ ?_
            rotate_left
            · intro w'
              go_simp
              with_reducible rfl
            rotate_left
            · simp only [Act.put, List.setIfInBounds_toArray, List.set_cons_zero, List.set_cons_succ, i64_w, i32_w]
              rfl
            refine take_ (i := 5) (N := some 16) (v := ?_) (a' := ?_) #[true, true, true, true, true, true, false, true, true, true, true, false, false, false, false, false] rfl rfl (take_ofW HT_.out HW_.out (by kernel_rfl)) (fun _ _ _ h => h) (Or.inl ⟨by rfl, ?_⟩) hHeld ?_ ?_
            rotate_left
            · rintro w' ⟨s0, s1, s2, s3⟩
              go_simp
              with_reducible rfl
            rotate_left
            · simp only [Act.put, List.setIfInBounds_toArray, List.set_cons_zero, List.set_cons_succ, i64_w, i32_w]
              rfl
            refine take_ (i := 11) (N := some 22) (v := ?_) (a' := ?_) #[true, true, true, true, true, true, false, true, true, true, true, true, false, false, false, false] rfl rfl (take_ofW HT_.out HW_.out (by kernel_rfl)) (fun _ _ _ h => h) (Or.inl ⟨by rfl, ?_⟩) hHeld ?_ ?_
            rotate_left
            · rintro w' ⟨s0, s1, s2, s3⟩
              go_simp
              with_reducible rfl
            rotate_left
            · simp only [Act.put, List.setIfInBounds_toArray, List.set_cons_zero, List.set_cons_succ, i64_w, i32_w]
              rfl
            refine one_ (i := 6) (N := some 17) #[true, true, true, true, true, true, true, true, true, true, true, true, false, false, false, false] rfl rfl (one_of HT_.out (by kernel_rfl)) (by decide) (fun K hK => ?_)
            refine goes_ Try.func20 (by kernel_rfl) rfl #[.slice A409_0 ((rd_T48 l0 x4_1).f0).length c409_0] (by rfl) rfl rfl (by (try simp only [List.map_toArray, List.map_cons, List.map_nil]); first | done | rfl | (simp only [List.length_drop, List.length_take]; rfl)) ?_
            with_reducible refine (shuttlelaw0_CopySteps.calls _ _ ((rd_T48 l0 x4_1).f0) t410 _ ?side1 ?side2 A4.out).mono ?_
            (case side1 => repeat (first | exact (Kd.C_below HR409_0.out HB.out) | (with_reducible refine Kd.C_alloc ?_ _) | (with_reducible refine Kd.C_drewN ?_ _) | (with_reducible refine Kd.C_drew ?_)))
            (case side2 => exact HC409_0.out)
            rintro e w7 ⟨v411, rfl, ho0, hb⟩
            refine ⟨_, rfl, ?_⟩
            have n0_ := Aside0.mk (Kd.S_elder' (by (with_reducible repeat (first | apply Kd.S_alloc | apply Kd.S_drewN | apply Kd.S_drew)); exact HO_3.out) (Kd.R_base ho0) hb)
            have n1_ := Aside0.mk (Kd.R_lower ho0 (below_size (by repeat (first | (with_reducible first | exact HB.out | apply below_alloc | apply pw_below_drewN | apply below_drew1) | exact HB.out))))
            have n2_ := Aside0.mk (below_step (by repeat (first | (with_reducible first | exact HB.out | apply below_alloc | apply pw_below_drewN | apply below_drew1) | exact HB.out)) hb)
            clear HO_3
            clear HB
            have HO_3 := n0_
            have HO412 := n1_
            have HB := n2_
            clear n0_ n1_ n2_
            (try clear hb)
            (try clear hb2)
            (try clear hk)
            (try clear hi)
            (try clear ho0)
            obtain ⟨Ao8, co8, eo8⟩ := Kd.R_slice HO412.out
            (first | subst eo8 | (injection eo8 with f1_ f2_ f3_; have f4_ := f1_.symm; have f5_ := f3_.symm; clear f1_ f2_ f3_; subst f4_; subst f5_))
            refine hK.out _ _ ⟨((HB.out.cell (World.block_lt_of_cell? w _ hw409_0)).trans hw409_0), ((HB.out.cell (World.block_lt_of_cell? w _ hw409_1)).trans hw409_1), ((HB.out.cell (World.block_lt_of_cell? w _ hw413_0)).trans hw413_0), ((HB.out.cell (World.block_lt_of_cell? w _ hw413_1)).trans hw413_1)⟩ (fun hHeld => ?_)
            clear hK K
            refine norm_ (a' := ?_) ?_ ?_
            rotate_left
            · show Act.put _ (some 17) _ = _
              simp only [Act.put, List.setIfInBounds_toArray, List.set_cons_zero, List.set_cons_succ, i64_w, i32_w]
              rfl
            refine pure_ (i := 12) (N := some 23) (v := ?_) (a' := ?_) #[true, true, true, true, true, true, true, true, true, true, true, true, true, false, false, false] rfl rfl (any_of HT_.out (by kernel_rfl)) (fun _ _ _ h => h) (Or.inl ⟨by rfl, ?_⟩) ?_ ?_
            rotate_left
            · intro w'
              go_simp
              with_reducible rfl
            rotate_left
            · simp only [Act.put, List.setIfInBounds_toArray, List.set_cons_zero, List.set_cons_succ, i64_w, i32_w]
              rfl
            refine one_ (i := 13) (N := some 24) #[true, true, true, true, true, true, true, true, true, true, true, true, true, true, false, false] rfl rfl (one_of HT_.out (by kernel_rfl)) (by decide) (fun K hK => ?_)
            refine value_ (w1 := ?_) (v := ?_) (by rfl) rfl ?_ ?_
            rotate_left 2
            · go_simp
              constructor
              · rfl
              · rfl
            refine hK.out _ _ ⟨(World.cell?_alloc_lt _ _ _ (World.block_lt_of_cell? _ _ (((HB.out.cell (World.block_lt_of_cell? w _ hw409_0)).trans hw409_0)))).trans (((HB.out.cell (World.block_lt_of_cell? w _ hw409_0)).trans hw409_0)), (World.cell?_alloc_lt _ _ _ (World.block_lt_of_cell? _ _ (((HB.out.cell (World.block_lt_of_cell? w _ hw409_1)).trans hw409_1)))).trans (((HB.out.cell (World.block_lt_of_cell? w _ hw409_1)).trans hw409_1)), (World.cell?_alloc_lt _ _ _ (World.block_lt_of_cell? _ _ (((HB.out.cell (World.block_lt_of_cell? w _ hw413_0)).trans hw413_0)))).trans (((HB.out.cell (World.block_lt_of_cell? w _ hw413_0)).trans hw413_0)), (World.cell?_alloc_lt _ _ _ (World.block_lt_of_cell? _ _ (((HB.out.cell (World.block_lt_of_cell? w _ hw413_1)).trans hw413_1)))).trans (((HB.out.cell (World.block_lt_of_cell? w _ hw413_1)).trans hw413_1))⟩ (fun hHeld => ?_)
            clear hK K
            refine norm_ (a' := ?_) ?_ ?_
            rotate_left
            · show Act.put _ (some 24) _ = _
              simp only [Act.put, List.setIfInBounds_toArray, List.set_cons_zero, List.set_cons_succ, i64_w, i32_w]
              rfl
            refine one_ (i := 14) (N := some 25) #[true, true, true, true, true, true, true, true, true, true, true, true, true, true, true, false] rfl rfl (one_of HT_.out (by kernel_rfl)) (by decide) (fun K hK => ?_)
            refine Kd.S_append_step k48 (w0 := w) w.heap.size (by rfl) (.tmp 11) (.tmp 24) 36 48 (.agg #[(.slice none 0 0), (.int .i64 0)]) 32 rfl Try.underlying36 info48 rfl (by decide) (by omega) u3 x3_1 (⟨t410, (rd_T48 l0 x4_1).f1⟩ : S48) [.slice Ao8 t410.length co8, .int .i64 ((rd_T48 l0 x4_1).f1)] (fun _ => True) (fun k_ => some k_ = (.slice Ao8 t410.length co8 : Value).ownBlock) rfl rfl ?aP (fun k_ hk_ => ((Kd.R_mono (ok' := fun k_ => ((fun _ => True)) k_ ∧ some k_ ≠ (u3 : Value).ownBlock) (Kd.R_apart' (HO412.out) (Kd.S_typed HO_3.out) (by decide)) (fun k_ hk => ⟨trivial, hk.2⟩))).1 k_ hk_.symm) ?aF ?aO ?aB ?aS ?aL ?_
            (case aP => exact k48_mkM _ _ _ (⟨t410, (rd_T48 l0 x4_1).f1⟩ : S48) (Kd.R_mono (Kd.R_tight rfl (Kd.R_mono (ok' := fun k_ => ((fun _ => True)) k_ ∧ some k_ ≠ (u3 : Value).ownBlock) (Kd.R_apart' (HO412.out) (Kd.S_typed HO_3.out) (by decide)) (fun k_ hk => ⟨trivial, hk.2⟩))) (fun _ h_ => h_)))
            (case aB => exact (by repeat (first | (with_reducible first | exact HB.out | apply below_alloc | apply pw_below_drewN | apply below_drew1) | exact HB.out)))
            (case aF => exact (fun _ _ => trivial))
            (case aO => exact (by (with_reducible repeat (first | apply Kd.S_alloc | apply Kd.S_drewN | apply Kd.S_drew)); exact Kd.S_mono HO_3.out (fun k_ hk => ⟨trivial, fun e_ => hk.2 e_⟩)))
            (case aS => exact (below_size (by repeat (first | (with_reducible first | exact HB.out | apply below_alloc | apply pw_below_drewN | apply below_drew1) | exact HB.out))))
            (case aL => have := LMc5.out; omega)
            intro v415 w9 ho hb hg hat
            rw [← Ny414.out] at ho
            have n0_ := Aside0.mk (hb)
            have n1_ := Aside0.mk (ho)
            clear HB
            clear HO_3
            clear HO412
            have HB := n0_
            have HO416 := n1_
            clear n0_ n1_
            clear ho hb hg hat
            refine hK.out _ _ ⟨((HB.out.cell (World.block_lt_of_cell? w _ hw409_0)).trans hw409_0), ((HB.out.cell (World.block_lt_of_cell? w _ hw409_1)).trans hw409_1), ((HB.out.cell (World.block_lt_of_cell? w _ hw413_0)).trans hw413_0), ((HB.out.cell (World.block_lt_of_cell? w _ hw413_1)).trans hw413_1)⟩ (fun hHeld => ?_)
            clear hK K
            refine norm_ (a' := ?_) ?_ ?_
            rotate_left
            · show Act.put _ (some 25) _ = _
              simp only [Act.put, List.setIfInBounds_toArray, List.set_cons_zero, List.set_cons_succ, i64_w, i32_w]
              rfl
            refine pure_ (i := 15) (N := some 3) (v := ?_) (a' := ?_) #[true, true, true, true, true, true, true, true, true, true, true, true, true, true, true, true] rfl rfl (any_of HT_.out (by kernel_rfl)) (fun _ _ _ h => h) (Or.inl ⟨by rfl, ?_⟩) ?_ ?_
            rotate_left
            · intro w'
              go_simp
              with_reducible rfl
            rotate_left
            · simp only [Act.put, List.setIfInBounds_toArray, List.set_cons_zero, List.set_cons_succ, i64_w, i32_w]
              rfl
            refine done_ (done_of HT_.out (by kernel_rfl)) ?_
            try go_wp2
            go_roundg k1
            case measure => have := HK1.out; omega
            case rel => exact ⟨(y414), (wrap64 (x4_1 + 1)), (by first | rfl | (simp; done) | (simp [*]; done)), H', ⟨by have := HK1.out; omega⟩, ⟨by (with_reducible repeat (first | apply Kd.S_alloc | apply Kd.S_drewN | apply Kd.S_drew)); exact HO416.out⟩, ⟨by repeat (first | (with_reducible first | exact HB.out | apply below_alloc | apply pw_below_drewN | apply below_drew1) | exact HB.out)⟩⟩
          · rw [if_neg c5] at H
            exact absurd H (by simp)
        · rw [if_neg c3] at H
          exact absurd H (by simp)
      · rw [if_neg c2] at H
        have c2b0 : decide (x4_1 < (l0.length : Int)) = false := decide_eq_false c2
        clear c2
        obtain rfl := Option.some.inj H
        go_wp2
        go_ret
        exact ⟨_, by first | rfl | (simp [errW_none, errW_some] <;> rfl) | (simp [*, errW_none, errW_some] <;> rfl), by (with_reducible repeat (first | apply Kd.S_alloc | apply Kd.S_drewN | apply Kd.S_drew)); exact HO_3.out, by repeat (first | (with_reducible first | exact HB.out | apply below_alloc | apply pw_below_drewN | apply below_drew1) | exact HB.out)⟩

/-! ### shuttlelaw0_Low: function 29 -/
/-! ### shuttlelaw12_RuleFirst: function 8 -/
end Go.Proofs.Ytinhlaiogkmkfaa.PA
end
section
/- rule.say: what is checked has an answer. -/
namespace Go.Proofs.Ytinhlaiogkmkfaa.G
open Go.RowKit
set_option linter.unusedVariables false
theorem snoc_of {α : Type} {l : List α} {n : Nat} (h : l.length = n + 1) : ∃ s a, l = s ++ [a] ∧ s.length = n := by
  rcases List.eq_nil_or_concat l with rfl | ⟨s, a, rfl⟩
  · cases h
  · exact ⟨s, a, by simp, by simpa using h⟩
theorem lay1_ok {sv : List Vl} {n : Nat} (h : sv.length = n + 1) (f : Vl → Bool) : ∃ sv', lay1 sv f = some sv' ∧ sv'.length = n + 1 := by
  obtain ⟨s, a, rfl, hs⟩ := snoc_of h
  exact ⟨_, by unfold lay1; rw [pop1_snoc]; rfl, by simpa using hs⟩
theorem lay2_ok {sv : List Vl} {n : Nat} (h : sv.length = n + 2) (f : Vl → Vl → Bool) : ∃ sv', lay2 sv f = some sv' ∧ sv'.length = n + 1 := by
  obtain ⟨s, a, rfl, hs⟩ := snoc_of (n := n + 1) h
  obtain ⟨s, b, rfl, hs⟩ := snoc_of hs
  refine ⟨_, by unfold lay2; rw [pop1_snoc, Option.bind_some]; show Option.map _ (pop1 (s ++ [b])) = _; rw [pop1_snoc]; rfl, by simpa using hs⟩
theorem step_on (vs : List (ByteArray × ByteArray)) {st st' : List Prt} {sv : List Vl} {k : Int} {tx : ByteArray} (h : stepC st k tx = some st') (hl : sv.length = st.length) :
    ∃ sv', stepV vs k tx sv = some sv' ∧ sv'.length = st'.length := by
  have pop : ∀ {m : Nat} {t : Bool} {ok : List Prt → Bool}, (match popC st m t with | some (s, l) => if ok l && tx.toList.isEmpty then some (s ++ [tru]) else none | none => none) = some st' → ∃ n, st'.length = n + 1 ∧ sv.length = n + m := by
    intro m t ok e
    split at e
    · rename_i s l hp
      split at e
      · injection e with e
        subst e
        obtain ⟨rfl, h1, _⟩ := popC_parts hp
        exact ⟨s.length, by simp, by rw [hl]; simp [h1]⟩
      · cases e
    · cases e
  have lift : ∀ {b : Bool} {q : Prt} (v : Vl), (if b then some (st ++ [q]) else none) = some st' → ∃ sv', some (sv ++ [v]) = some sv' ∧ sv'.length = st'.length := by
    intro b q v e
    split at e
    · injection e with e
      subst e
      exact ⟨_, rfl, by simp [hl]⟩
    · cases e
  have one : ∀ {f : Vl → Bool}, (∃ n, st'.length = n + 1 ∧ sv.length = n + 1) → ∃ sv', lay1 sv f = some sv' ∧ sv'.length = st'.length := by
    rintro f ⟨n, h1, h2⟩
    rw [h1]
    exact lay1_ok h2 f
  have two : ∀ {f : Vl → Vl → Bool}, (∃ n, st'.length = n + 1 ∧ sv.length = n + 2) → ∃ sv', lay2 sv f = some sv' ∧ sv'.length = st'.length := by
    rintro f ⟨n, h1, h2⟩
    rw [h1]
    exact lay2_ok h2 f
  unfold stepC at h
  simp only [] at h
  split at h
  · rename_i hk
    subst hk
    split at h
    · injection h with h
      subst h
      exact ⟨_, rfl, by simp [hl]⟩
    · cases h
  split at h
  · rename_i hk
    subst hk
    exact lift _ h
  split at h
  · rename_i hk
    subst hk
    exact lift _ h
  split at h
  · rename_i hk
    rcases hk with rfl | rfl
    · exact lift _ h
    · exact lift _ h
  split at h
  · rename_i hk
    subst hk
    exact one (f := fun a => !a.text.toList.isEmpty) (pop (ok := fun _ => true) h)
  split at h
  · rename_i hk
    rcases hk with rfl | rfl
    · exact two (f := fun a b => a.text.toList == b.text.toList) (pop (ok := fun _ => true) h)
    · exact two (f := fun a b => !(a.text.toList == b.text.toList)) (pop (ok := fun _ => true) h)
  split at h
  · rename_i hk
    rcases hk with rfl | rfl
    · exact two (f := fun a b => (matchRes b.text a.text).1) (pop (ok := fun l => match l[1]? with | some q => q.lit && (checkRes q.text).2 == 0 | none => false) h)
    · exact two (f := fun a b => !(matchRes b.text a.text).1) (pop (ok := fun l => match l[1]? with | some q => q.lit && (checkRes q.text).2 == 0 | none => false) h)
  split at h
  · rename_i hk
    subst hk
    exact one (f := fun a => !a.ok) (pop (ok := fun _ => true) h)
  split at h
  · rename_i hk
    rcases hk with rfl | rfl
    · exact two (f := fun a b => a.ok && b.ok) (pop (ok := fun _ => true) h)
    · exact two (f := fun a b => a.ok || b.ok) (pop (ok := fun _ => true) h)
  · cases h
theorem run_on (vs : List (ByteArray × ByteArray)) : ∀ (t : List (Int × ByteArray)) {st st' : List Prt} {sv : List Vl}, runC t st = some st' → sv.length = st.length → ∃ sv', runV vs t sv = some sv' ∧ sv'.length = st'.length := by
  intro t
  induction t with
  | nil =>
    intro st st' sv h hl
    injection h with h
    subst h
    exact ⟨sv, rfl, hl⟩
  | cons q r ih =>
    intro st st' sv h hl
    unfold runC at h
    rw [Option.bind_eq_some_iff] at h
    obtain ⟨s1, h1, h2⟩ := h
    obtain ⟨v1, h3, h4⟩ := step_on vs h1 hl
    obtain ⟨v2, h5, h6⟩ := ih h2 h4
    exact ⟨v2, by unfold runV; rw [h3]; exact h5, h6⟩
theorem say_some (vs : List (ByteArray × ByteArray)) {t : List (Int × ByteArray)} (h : checkB t = true) : ∃ b, sayV vs t = some b := by
  unfold checkB at h
  rw [Bool.and_eq_true] at h
  cases hr : runC t [] with
  | none => rw [hr] at h; cases h.2
  | some st =>
    rw [hr] at h
    match st, h.2 with
    | [q], _ =>
      obtain ⟨sv, h1, h2⟩ := run_on vs t (sv := []) hr rfl
      obtain ⟨s, a, rfl, _⟩ := snoc_of (n := 0) h2
      exact ⟨a.ok, by unfold sayV; rw [h1, Option.bind_some, pop1_snoc]; rfl⟩
theorem check_len {t : List (Int × ByteArray)} (h : checkB t = true) : t.length ≤ 1024 := by
  unfold checkB at h
  rw [Bool.and_eq_true] at h
  simpa using h.1
end Go.Proofs.Ytinhlaiogkmkfaa.G
end
section
/- When's rules: what the functions of the law compute. -/
namespace Go.Proofs.Ytinhlaiogkmkfaa.PA
open Go.RowKit Go.Proofs.YtinhlaiogkmkfaaW.PrintWords Go.Proofs.YtinhlaiogkmkfaaW.PrintLast Go.Proofs.YtinhlaiogkmkfaaW.PrintMore
set_option linter.unusedVariables false
/-- The sizes that a row's arguments have. -/
structure StepsFit (l : List S45) : Prop where
  len : l.length < 5864062014805
  each : ∀ x ∈ l, x.f1.size ≤ 140737488351232
structure VarsFit (l : List S56) : Prop where
  len : l.length < 4398046511104
  each : ∀ x ∈ l, x.f0.size ≤ 140737488351232 ∧ x.f1.size ≤ 140737488351232
structure RulesFit (l : List S48) : Prop where
  len : l.length ≤ 4398046511104
  each : ∀ x ∈ l, StepsFit x.f0
theorem wrap_up {i n : Nat} (h : i < n) (hn : n ≤ 140737488351232) : wrap64 ((i : Int) + 1) = ((i + 1 : Nat) : Int) := by
  unfold wrap64
  omega
theorem rd48 {l : List S48} {i : Nat} (h : i < l.length) : rd_T48 l (i : Int) = l[i] := by
  unfold rd_T48
  simp [h]
theorem rd45 {l : List S45} {i : Nat} (h : i < l.length) : rd_T45 l (i : Int) = l[i] := by
  unfold rd_T45
  simp [h]
theorem copySteps_eq {l : List S45} (h : l.length < 5864062014805) : shuttlelaw0_CopySteps.f l = some l := by
  unfold shuttlelaw0_CopySteps.f
  simp [h]
theorem copyVars_eq {l : List S56} (h : l.length < 4398046511104) : shuttlelaw0_CopyVars.f l = some l := by
  unfold shuttlelaw0_CopyVars.f
  simp [h]
theorem copyRules_loop {l : List S48} (h : RulesFit l) (d : Nat) : ∀ (k i : Nat), l.length - i = d → i ≤ l.length → d < k → shuttlelaw0_CopyRules.l0 k l (l.take i) i = some l := by
  have hl := h.len
  induction d with
  | zero =>
    intro k i hd hi hk
    obtain ⟨k, rfl⟩ : ∃ m, k = m + 1 := ⟨k - 1, by omega⟩
    obtain rfl : i = l.length := by omega
    unfold shuttlelaw0_CopyRules.l0
    rw [if_neg (by omega), List.take_length]
  | succ d ih =>
    intro k i hd hi hk
    obtain ⟨k, rfl⟩ : ∃ m, k = m + 1 := ⟨k - 1, by omega⟩
    have hi' : i < l.length := by omega
    unfold shuttlelaw0_CopyRules.l0
    rw [if_pos (by omega), if_pos (by omega), rd48 hi', copySteps_eq (h.each _ (List.getElem_mem _)).len, Option.bind_some, if_pos (by rw [List.length_take]; omega), wrap_up hi' (by omega)]
    have e : l.take i ++ [(⟨l[i].f0, l[i].f1⟩ : S48)] = l.take (i + 1) := by
      rw [List.take_add_one, List.getElem?_eq_getElem hi']
      rfl
    rw [e]
    exact ih k (i + 1) (by omega) (by omega) (by omega)
theorem copyRules_eq {l : List S48} (h : RulesFit l) {k : Nat} (hk : l.length < k) : shuttlelaw0_CopyRules.f k l = some l := by
  unfold shuttlelaw0_CopyRules.f
  exact copyRules_loop h l.length k 0 (by omega) (by omega) hk
/-- A rule's expression is one. -/
def okC (l : List S45) : Bool := G.checkB (expr_Check.prs l)
theorem check_eq {l : List S45} (h : StepsFit l) : expr_Check.f l = some (okC l) := by
  unfold expr_Check.f
  rw [if_pos]
  · rfl
  · unfold expr_Check.fit
    rw [Bool.and_eq_true, decide_eq_true_eq, List.all_eq_true]
    exact ⟨by have := h.len; omega, fun x hx => decide_eq_true (by have := h.each x hx; omega)⟩
/-- What a checked expression says. -/
def sayB (l : List S45) (vs : List S56) : Bool := (rule_say.f l vs).getD false
theorem say_eq {l : List S45} {vs : List S56} (h : StepsFit l) (hv : VarsFit vs) (hc : okC l = true) : rule_say.f l vs = some (sayB l vs) := by
  obtain ⟨b, hb⟩ := G.say_some (rule_say.vrs vs) hc
  have hl := G.check_len hc
  have hl' : l.length ≤ 1024 := by simpa [expr_Check.prs] using hl
  have hf : rule_say.fit l vs = true := by
    unfold rule_say.fit
    rw [Bool.and_eq_true, Bool.and_eq_true, Bool.and_eq_true, decide_eq_true_eq, decide_eq_true_eq, List.all_eq_true, List.all_eq_true]
    exact ⟨⟨by omega, fun x hx => decide_eq_true (by have := h.each x hx; omega)⟩, by have := hv.len; omega, fun x hx => decide_eq_true (by have := (hv.each x hx).2; omega)⟩
  have : rule_say.f l vs = some b := by
    unfold rule_say.f
    rw [if_pos hf]
    exact hb
  unfold sayB
  rw [this]
  rfl
/-- A rule's expression may stand there. -/
def fine (r : S48) : Bool := r.f0.isEmpty || okC r.f0
def isOne (n : Int) : Bool := decide (0 ≤ n) && decide (n ≤ 3)
theorem one_eq (n : Int) : rule_one.f n = some (isOne n) := by
  unfold rule_one.f isOne
  by_cases h : 0 ≤ n
  · rw [if_pos h, decide_eq_true h]; rfl
  · rw [if_neg h, decide_eq_false h]; rfl
/-- A rule that holds. -/
def holds (vs : List S56) (r : S48) : Bool := r.f0.isEmpty || sayB r.f0 vs
def firstOf (vs : List S56) : List S48 → Int
  | [] => 3
  | r :: l => if holds vs r then r.f1 else firstOf vs l
/-- What When answers. -/
def whenR (l : List S48) (base : Int) (vs : List S56) : Int × Int :=
  if l.all fine then (if isOne base && decide (l.length ≤ 16) && l.all (fun r => isOne r.f1) then (if l.length = 0 then (base, 0) else (firstOf vs l, 0)) else (0, 121)) else (0, 120)
theorem when2 {l : List S48} {vs : List S56} (h : RulesFit l) (hv : VarsFit vs) (hf : l.all fine = true) (d : Nat) : ∀ (k i : Nat), l.length - i = d → i ≤ l.length → d < k → rule_When.l2 k vs l l.length i = some (firstOf vs (l.drop i), 0) := by
  have hl := h.len
  induction d with
  | zero =>
    intro k i hd hi hk
    obtain ⟨k, rfl⟩ : ∃ m, k = m + 1 := ⟨k - 1, by omega⟩
    obtain rfl : i = l.length := by omega
    unfold rule_When.l2
    rw [if_neg (by omega), List.drop_length]
    rfl
  | succ d ih =>
    intro k i hd hi hk
    obtain ⟨k, rfl⟩ : ∃ m, k = m + 1 := ⟨k - 1, by omega⟩
    have hi' : i < l.length := by omega
    unfold rule_When.l2
    rw [if_pos (by omega), if_pos (by omega), if_pos (by omega), rd48 hi', List.drop_eq_getElem_cons hi']
    have hfi : fine l[i] = true := List.all_eq_true.1 hf _ (List.getElem_mem _)
    unfold firstOf
    by_cases h0 : l[i].f0 = []
    · rw [if_pos (by rw [h0]; rfl), if_pos (by unfold holds; rw [h0]; rfl)]
    · have h1 : l[i].f0.isEmpty = false := by rw [Bool.eq_false_iff]; intro e; exact h0 (List.isEmpty_iff.1 e)
      have hc : okC l[i].f0 = true := by unfold fine at hfi; rw [h1, Bool.false_or] at hfi; exact hfi
      have hh : holds vs l[i] = sayB l[i].f0 vs := by unfold holds; rw [h1, Bool.false_or]
      rw [if_neg (by intro e; exact h0 (List.length_eq_zero_iff.1 (by omega))), say_eq (h.each _ (List.getElem_mem _)) hv hc, Option.bind_some, hh]
      by_cases h2 : sayB l[i].f0 vs = true
      · rw [if_pos h2, if_pos h2]
      · rw [if_neg h2, if_neg h2, wrap_up hi' (by omega)]
        exact ih k (i + 1) (by omega) (by omega) (by omega)
theorem when1 {l : List S48} {vs : List S56} (base : Int) (h : RulesFit l) (hv : VarsFit vs) (hf : l.all fine = true) (d : Nat) : ∀ (k i : Nat) (b : Bool), l.length - i = d → i ≤ l.length → d + l.length + 1 < k →
    rule_When.l1 k l base vs b l l.length i = some (if b && (l.drop i).all (fun r => isOne r.f1) then (if l.length = 0 then (base, 0) else (firstOf vs l, 0)) else (0, 121)) := by
  have hl := h.len
  induction d with
  | zero =>
    intro k i b hd hi hk
    obtain ⟨k, rfl⟩ : ∃ m, k = m + 1 := ⟨k - 1, by omega⟩
    obtain rfl : i = l.length := by omega
    unfold rule_When.l1
    rw [if_neg (by omega), List.drop_length]
    cases b
    · rfl
    · rw [if_pos rfl]
      by_cases h0 : l.length = 0
      · rw [if_pos (by omega)]
        simp [h0]
      · rw [if_neg (by omega), show (0 : Int) = ((0 : Nat) : Int) from rfl, when2 h hv hf l.length k 0 (by omega) (by omega) (by omega)]
        simp [h0]
  | succ d ih =>
    intro k i b hd hi hk
    obtain ⟨k, rfl⟩ : ∃ m, k = m + 1 := ⟨k - 1, by omega⟩
    have hi' : i < l.length := by omega
    unfold rule_When.l1
    rw [if_pos (by omega), if_pos (by omega), if_pos (by omega), rd48 hi', List.drop_eq_getElem_cons hi', List.all_cons, wrap_up hi' (by omega)]
    cases b
    · rw [if_neg (by decide), ih k (i + 1) false (by omega) (by omega) (by omega)]
      rfl
    · rw [if_pos rfl, one_eq, Option.bind_some, ih k (i + 1) _ (by omega) (by omega) (by omega), Bool.true_and]
theorem when0 {l : List S48} {vs : List S56} (base : Int) (h : RulesFit l) (hv : VarsFit vs) (d : Nat) : ∀ (k i : Nat), l.length - i = d → i ≤ l.length → d + 2 * l.length + 4 < k → (l.take i).all fine = true →
    rule_When.l0 k l base vs l l.length i = some (whenR l base vs) := by
  have hl := h.len
  induction d with
  | zero =>
    intro k i hd hi hk ht
    obtain ⟨k, rfl⟩ : ∃ m, k = m + 2 := ⟨k - 2, by omega⟩
    obtain rfl : i = l.length := by omega
    rw [List.take_length] at ht
    unfold rule_When.l0
    rw [if_neg (by omega), one_eq, Option.bind_some]
    have hj : ∀ b, rule_When.j1 (k + 1) l base vs b = some (if b && l.all (fun r => isOne r.f1) then (if l.length = 0 then (base, 0) else (firstOf vs l, 0)) else (0, 121)) := by
      intro b
      unfold rule_When.j1
      show rule_When.l1 k l base vs b l (l.length : Int) ((0 : Nat) : Int) = _
      rw [when1 base h hv ht l.length k 0 b (by omega) (by omega) (by omega)]
      rfl
    unfold whenR
    rw [if_pos ht]
    by_cases hb : isOne base = true
    · rw [if_pos hb, hj, hb, Bool.true_and]
      congr 4
      exact decide_eq_decide.2 (by omega)
    · rw [if_neg hb, hj, Bool.eq_false_iff.2 hb]
      rfl
  | succ d ih =>
    intro k i hd hi hk ht
    obtain ⟨k, rfl⟩ : ∃ m, k = m + 1 := ⟨k - 1, by omega⟩
    have hi' : i < l.length := by omega
    unfold rule_When.l0
    rw [if_pos (by omega), if_pos (by omega), if_pos (by omega), rd48 hi', wrap_up hi' (by omega)]
    have nx : fine l[i] = true → rule_When.l0 k l base vs l l.length ((i + 1 : Nat) : Int) = some (whenR l base vs) := by
      intro hf
      refine ih k (i + 1) (by omega) (by omega) (by omega) ?_
      rw [List.take_add_one, List.getElem?_eq_getElem hi', List.all_append, ht]
      simpa using hf
    by_cases h0 : l[i].f0 = []
    · rw [if_neg (by rw [h0]; simp), nx (by unfold fine; rw [h0]; rfl)]
    · have h1 : l[i].f0.isEmpty = false := by rw [Bool.eq_false_iff]; intro e; exact h0 (List.isEmpty_iff.1 e)
      have hh : fine l[i] = okC l[i].f0 := by unfold fine; rw [h1, Bool.false_or]
      rw [if_pos (by have := List.length_pos_iff.2 h0; omega), check_eq (h.each _ (List.getElem_mem _)), Option.bind_some]
      by_cases hc : okC l[i].f0 = true
      · rw [if_pos hc, nx (hh.trans hc)]
      · rw [if_neg hc]
        unfold whenR
        rw [if_neg]
        intro ha
        exact hc (hh ▸ List.all_eq_true.1 ha _ (List.getElem_mem hi'))
theorem when_eq {l : List S48} {vs : List S56} (base : Int) (h : RulesFit l) (hv : VarsFit vs) {k : Nat} (hk : 3 * l.length + 4 < k) : rule_When.f k l base vs = some (whenR l base vs) := by
  unfold rule_When.f
  exact when0 base h hv l.length k 0 (by omega) (by omega) (by omega) rfl
theorem eval_eq {l : List S45} {vs : List S56} (h : StepsFit l) (hv : VarsFit vs) (hc : okC l = true) : rule_Eval.f l vs = some (sayB l vs, 0) := by
  unfold rule_Eval.f
  rw [check_eq h, Option.bind_some, if_pos hc, say_eq h hv hc]
  rfl
end Go.Proofs.Ytinhlaiogkmkfaa.PA
end
section
/- Arguments opened: whatever reads as data of a type is an element of the print's kind for it. -/
namespace Go.Proofs.Ytinhlaiogkmkfaa.G
open Go.RowKit Go.Proofs.YtinhlaiogkmkfaaW.PrintWords
set_option linter.unusedVariables false
set_option linter.unusedSimpArgs false
/-- Data of type t read as an α of kind d; bd: what its sizes say. -/
def Opens (P : Program) (t : TypeId) {α : Type} (d : Kd α) (bd : α → Prop) : Prop :=
  ∀ {H : Type} {enc : TypeId × Value → H} {w : World} {base : Nat} {spare : Nat → Bool} {held : Bool} {fuel : Nat} {cs : List Value} {x : DataW H × List MemPlace},
    DataW.trod enc P w base spare held fuel t cs = some x → ∃ a : α, d.K w a cs ∧ ((∀ n ∈ DataW.weights P t x.1, n ≤ reachBytes) → bd a)
section
variable {P : Program} {t e : TypeId} {α β : Type} {d : Kd α} {bd bd' : α → Prop}
theorem Opens.mono (h : Opens P t d bd) (hb : ∀ a, bd a → bd' a) : Opens P t d bd' := by
  intro H enc w base spare held fuel cs x hx
  obtain ⟨a, h1, h2⟩ := h hx
  exact ⟨a, h1, fun hn => hb a (h2 hn)⟩
theorem opens_int {k : IntKind} (ht : P.underlying t = some (.int k)) : Opens P t (Kd.int k) (fun n => (Lit.int k n).wf = true) := by
  intro H enc w base spare held fuel cs x hx
  obtain ⟨n, rfl, _, hw⟩ := DataW.trod_int ht hx
  exact ⟨n, rfl, fun _ => hw⟩
theorem opens_string (ht : P.underlying t = some .string) : Opens P t Kd.string (fun s => s.size ≤ 140737488351232) := by
  intro H enc w base spare held fuel cs x hx
  obtain ⟨s, rfl, rfl, _⟩ := DataW.trod_string ht hx
  refine ⟨s, rfl, fun hn => ?_⟩
  have := hn s.data.toList.length (by simp [DataW.weights])
  rw [Array.length_toList] at this
  exact this
theorem Opens.iso (h : Opens P t d bd) (f : β → α) (g : α → β) (hfg : ∀ a, f (g a) = a) : Opens P t (Kd.iso d f) (fun b => bd (f b)) := by
  intro H enc w base spare held fuel cs x hx
  obtain ⟨a, h1, h2⟩ := h hx
  refine ⟨g a, ?_, fun hn => ?_⟩
  · show d.K w (f (g a)) cs
    rw [hfg]; exact h1
  · show bd (f (g a))
    rw [hfg]; exact h2 hn
theorem list_of {Q : Nat → α → Prop} : ∀ n, (∀ i, i < n → ∃ z, Q i z) → ∃ xs : List α, xs.length = n ∧ ∀ i x, xs[i]? = some x → Q i x := by
  intro n
  induction n with
  | zero => intro _; exact ⟨[], rfl, fun i x h => by simp at h⟩
  | succ n ih =>
    intro h
    obtain ⟨xs, hl, hq⟩ := ih (fun i hi => h i (by omega))
    obtain ⟨z, hz⟩ := h n (by omega)
    refine ⟨xs ++ [z], by simp [hl], fun i x hx => ?_⟩
    by_cases hi : i < xs.length
    · rw [List.getElem?_append_left hi] at hx
      exact hq i x hx
    · rw [List.getElem?_append_right (by omega)] at hx
      have : i - xs.length = 0 := by
        cases hk : i - xs.length with
        | zero => rfl
        | succ k => rw [hk] at hx; simp at hx
      rw [this] at hx
      simp at hx
      subst hx
      rw [show i = n by omega]
      exact hz
theorem weightsAll_mem {H : Type} {P : Program} {e : TypeId} {l : List (DataW H)} {y : DataW H} (hy : y ∈ l) : ∀ n ∈ DataW.weights P e y, n ∈ DataW.weightsAll P e l := by
  induction l with
  | nil => cases hy
  | cons z r ih =>
    intro n hn
    unfold DataW.weightsAll
    rcases List.mem_cons.1 hy with rfl | h
    · exact List.mem_append_left _ hn
    · exact List.mem_append_right _ (ih h n hn)
theorem opens_slice (ht : P.underlying t = some (.slice e)) (h : Opens P e d bd) (hs : d.sz = P.cellsOf e) (et : Nat) : Opens P t (Kd.slice et d) (fun xs => (∀ a ∈ xs, bd a) ∧ xs.length * P.bytesOf e ≤ 140737488351232) := by
  intro H enc w base spare held fuel cs x hx
  rcases DataW.trod_slice ht hx with ⟨rfl, rfl⟩ | ⟨a, len, cap, elems, rest, n, _, rfl, rfl, hb, hl, hm, hlen, hel, hsp, hns⟩
  · exact ⟨[], ⟨none, 0, rfl, Nat.le_refl _, Kd.C_nil d w⟩, fun _ => ⟨fun a ha => (by cases ha), (by simp)⟩⟩
  · have each : ∀ i, i < len → ∃ z : α, ∃ (c : List Value) (y : DataW H × List MemPlace), w.cells? base (a.add (i * P.cellsOf e)) (P.cellsOf e) = some c ∧ elems[i]? = some y ∧ d.K w z c ∧ ((∀ n ∈ DataW.weights P e y.1, n ≤ reachBytes) → bd z) := by
      intro i hi
      have h1 := hel i hi
      rw [List.getElem?_eq_getElem (by omega), Option.bind_eq_some_iff] at h1
      obtain ⟨c, hc, hy⟩ := h1
      obtain ⟨z, hz, hbz⟩ := h hy
      exact ⟨z, c, _, hc, List.getElem?_eq_getElem (by omega), hz, hbz⟩
    obtain ⟨xs, hxl, hxs⟩ := list_of len each
    subst hxl
    refine ⟨xs, ⟨some a, cap, rfl, hl, rfl, by unfold maxLen at hm; omega, fun _ => ⟨a, rfl, fun j p hp => ?_⟩⟩, fun hn => ⟨fun z hz => ?_, ?_⟩⟩
    · obtain ⟨c, y, hc, _, hk, _⟩ := hxs j p hp
      obtain ⟨_, hcl, hcell⟩ := World.cells?_some hc
      refine ⟨c, by rw [hcl, hs], hk, fun i u hu => ?_⟩
      have hi : i < P.cellsOf e := by rw [← hcl]; exact (List.getElem?_eq_some_iff.1 hu).1
      have := hcell i hi
      rw [hu] at this
      rw [hs]
      rw [Addr.add_add] at this
      exact this
    · obtain ⟨j, hj⟩ := List.getElem?_of_mem hz
      obtain ⟨c, y, _, hy, _, hbz⟩ := hxs j z hj
      refine hbz fun m hm => hn m ?_
      simp only [DataW.weights, ht]
      refine List.mem_cons_of_mem _ (List.mem_append_left _ (weightsAll_mem (y := y.1) ?_ m hm))
      exact List.mem_map.2 ⟨y, List.mem_of_getElem? hy, rfl⟩
    · have h1 := hn ((elems.length + rest.length) * P.bytesOf e) (by simp [DataW.weights, ht])
      refine Nat.le_trans (Nat.mul_le_mul_right _ ?_) h1
      omega
/-- Fields that lie one behind the other, from cell o on. -/
def OpensL (P : Program) (fs : List Field) (o : Nat) {α : Type} (d : Kd α) (bd : α → Prop) : Prop :=
  ∀ {H : Type} {enc : TypeId × Value → H} {w : World} {base : Nat} {spare : Nat → Bool} {held : Bool} {n : Nat} {cs : List Value} (xs : List (DataW H × List MemPlace)), xs.length = fs.length →
    (∀ (i : Nat) (f : Field), fs[i]? = some f → DataW.trod enc P w base spare held n f.type ((cs.drop f.offset).take (P.cellsOf f.type)) = xs[i]?) → cs.length = o + (fs.map fun f => P.cellsOf f.type).sum →
    ∃ a : α, d.K w a (cs.drop o) ∧ ((∀ m ∈ DataW.weightsEach P (fs.map (·.type)) (xs.map (·.1)), m ≤ reachBytes) → bd a)
theorem opensL_one {f : Field} {o : Nat} (ho : f.offset = o) (h : Opens P f.type d bd) : OpensL P [f] o d bd := by
  intro H enc w base spare held n cs xs hl hx hc
  match xs, hl with
  | [y], _ =>
    have h1 := hx 0 f rfl
    rw [ho] at h1
    have h2 : (cs.drop o).take (P.cellsOf f.type) = cs.drop o := List.take_of_length_le (by simp at hc; simp; omega)
    rw [h2] at h1
    obtain ⟨a, h3, h4⟩ := h h1
    exact ⟨a, h3, fun hm => h4 (fun m hmm => hm m (by simpa [DataW.weightsEach] using hmm))⟩
theorem opensL_cons {f : Field} {fs : List Field} {o : Nat} {d' : Kd β} {bd2 : β → Prop} (ho : f.offset = o) (h : Opens P f.type d bd) (hr : OpensL P fs (o + P.cellsOf f.type) d' bd2) : OpensL P (f :: fs) o (Kd.pair d d') (fun x => bd x.1 ∧ bd2 x.2) := by
  intro H enc w base spare held n cs xs hl hx hc
  match xs, hl with
  | y :: ys, hl =>
    have h1 := hx 0 f rfl
    rw [ho] at h1
    obtain ⟨a, h3, h4⟩ := h h1
    obtain ⟨b, h5, h6⟩ := hr ys (by simpa using hl) (fun i g hg => hx (i + 1) g hg) (by rw [hc]; simp; omega)
    refine ⟨(a, b), ⟨_, _, ?_, h3, h5⟩, fun hm => ⟨h4 fun m hmm => hm m ?_, h6 fun m hmm => hm m ?_⟩⟩
    · rw [← List.drop_drop, List.take_append_drop]
    · simp only [List.map_cons, DataW.weightsEach]
      exact List.mem_append_left _ hmm
    · simp only [List.map_cons, DataW.weightsEach]
      exact List.mem_append_right _ hmm
theorem opens_struct {fs : Array Field} (ht : P.underlying t = some (.struct fs)) (hc : P.cellsOf t = (fs.toList.map fun f => P.cellsOf f.type).sum) (h : OpensL P fs.toList 0 d bd) : Opens P t d bd := by
  intro H enc w base spare held fuel cs x hx
  obtain ⟨xs, n, _, rfl, hl, hxl, hf⟩ := DataW.trod_struct ht hx
  obtain ⟨a, h1, h2⟩ := h xs (by simpa using hxl) (fun i f hi => hf i f (by simpa using hi)) (by rw [hl, hc]; omega)
  refine ⟨a, by simpa using h1, fun hn => h2 fun m hm => hn m ?_⟩
  simp only [DataW.weights, ht]
  exact hm
end
/-- An argument, opened. -/
theorem Opens.arg {P : Program} {t : TypeId} {α : Type} {d : Kd α} {bd : α → Prop} (h : Opens P t d bd) {H : Type} {enc : TypeId × Value → H} {W : World} {base : Nat} {spare : Nat → Bool} {held : Bool} {v : Value} {dt : DataW H} {ps : List MemPlace}
    (hd : DataW.Trod enc P W base spare held t v dt ps) : ∃ a : α, d.K W a v.cells.toList ∧ ((∀ n ∈ DataW.weights P t dt, n ≤ reachBytes) → bd a) := by
  obtain ⟨fuel, hx⟩ := hd
  exact h hx
theorem weights_each {H : Type} {P : Program} : ∀ {ts : List TypeId} {ds : List (DataW H)}, (DataW.weightsEach P ts ds).all (· ≤ reachBytes) = true → ∀ (j : Nat) (t : TypeId) (dt : DataW H), ts[j]? = some t → ds[j]? = some dt → ∀ n ∈ DataW.weights P t dt, n ≤ reachBytes := by
  intro ts
  induction ts with
  | nil => intro ds _ j t dt ht; simp at ht
  | cons u us ih =>
    intro ds hall j t dt ht hd n hn
    match ds, hd with
    | x :: r, hd =>
      simp only [DataW.weightsEach, List.all_append, Bool.and_eq_true] at hall
      cases j with
      | zero =>
        simp at ht hd
        subst ht hd
        simpa using List.all_eq_true.1 hall.1 n hn
      | succ j => exact ih hall.2 j t dt (by simpa using ht) (by simpa using hd) n hn
end Go.Proofs.Ytinhlaiogkmkfaa.G
end
section
/- The arguments of chapter 12's laws, opened. -/
namespace Go.Proofs.Ytinhlaiogkmkfaa.PA
open Go.RowKit Go.Proofs.Ytinhlaiogkmkfaa.G Go.Proofs.YtinhlaiogkmkfaaW.PrintWords
set_option linter.unusedVariables false
set_option linter.unusedSimpArgs false
set_option maxRecDepth 100000
theorem c3 : Try.prog.cellsOf 3 = 1 := by kernel_rfl
theorem c9 : Try.prog.cellsOf 9 = 1 := by kernel_rfl
theorem c22 : Try.prog.cellsOf 22 = 1 := by kernel_rfl
theorem c45 : Try.prog.cellsOf 45 = 2 := by kernel_rfl
theorem c56 : Try.prog.cellsOf 56 = 2 := by kernel_rfl
theorem c48 : Try.prog.cellsOf 48 = 2 := by kernel_rfl
theorem bytes45 : Try.prog.bytesOf 45 = 24 := by kernel_rfl
theorem bytes56 : Try.prog.bytesOf 56 = 32 := by kernel_rfl
theorem bytes48 : Try.prog.bytesOf 48 = 32 := by kernel_rfl
theorem o45 : Opens Try.prog 45 k45 (fun x => x.f1.size ≤ 140737488351232) :=
  Opens.mono (Opens.iso (opens_struct Try.underlying45 (by rw [c45]; simp [c3, c9, c22]) (opensL_cons rfl (opens_int Try.underlying3) (opensL_one (by simp [c3, c9, c22]) (opens_string Try.underlying9)))) (fun x : S45 => (x.f0, x.f1)) (fun p => ⟨p.1, p.2⟩) (fun _ => rfl)) fun _ h => h.2
theorem o22 : Opens Try.prog 22 (Kd.slice 45 k45) StepsFit :=
  Opens.mono (opens_slice Try.underlying22 o45 c45.symm 45) fun l h => ⟨by have := h.2; rw [bytes45] at this; omega, h.1⟩
theorem o56 : Opens Try.prog 56 k56 (fun x => x.f0.size ≤ 140737488351232 ∧ x.f1.size ≤ 140737488351232) :=
  Opens.iso (opens_struct Try.underlying56 (by rw [c56]; simp [c3, c9, c22]) (opensL_cons rfl (opens_string Try.underlying9) (opensL_one (by simp [c3, c9, c22]) (opens_string Try.underlying9)))) (fun x : S56 => (x.f0, x.f1)) (fun p => ⟨p.1, p.2⟩) (fun _ => rfl)
theorem o48 : Opens Try.prog 48 k48 (fun x => StepsFit x.f0) :=
  Opens.mono (Opens.iso (opens_struct Try.underlying48 (by rw [c48]; simp [c3, c9, c22]) (opensL_cons rfl o22 (opensL_one (by simp [c3, c9, c22]) (opens_int Try.underlying3)))) (fun x : S48 => (x.f0, x.f1)) (fun p => ⟨p.1, p.2⟩) (fun _ => rfl)) fun _ h => h.1
theorem o36 : Opens Try.prog 36 (Kd.slice 48 k48) RulesFit :=
  Opens.mono (opens_slice Try.underlying36 o48 c48.symm 48) fun l h => ⟨by have := h.2; rw [bytes48] at this; omega, h.1⟩
end Go.Proofs.Ytinhlaiogkmkfaa.PA
end
section
/- The arguments of chapter 12's laws that lend: opened, with room for what is lent. -/
namespace Go.Proofs.Ytinhlaiogkmkfaa.PA
open Go.RowKit Go.Proofs.Ytinhlaiogkmkfaa.G Go.Proofs.YtinhlaiogkmkfaaW.PrintWords
set_option linter.unusedVariables false
set_option linter.unusedSimpArgs false
set_option maxRecDepth 100000
theorem o22R : Opens Try.prog 22 (Kd.slice 45 k45) (fun l => StepsFit l ∧ l.length < 5864062014803) :=
  Opens.mono (opens_slice Try.underlying22 o45 c45.symm 45) fun l h => by
    have h2 := h.2
    rw [bytes45] at h2
    exact ⟨⟨by omega, h.1⟩, by omega⟩
theorem o23R : Opens Try.prog 23 (Kd.slice 56 k56) (fun l => VarsFit l ∧ l.length < 4398046511102) :=
  Opens.mono (opens_slice Try.underlying23 o56 c56.symm 56) fun l h => by
    have h2 := h.2
    rw [bytes56] at h2
    exact ⟨⟨by omega, h.1⟩, by omega⟩
end Go.Proofs.Ytinhlaiogkmkfaa.PA
end
section
/- append to a row of the call's own, up to the last place that the kit's law knows. -/
namespace Go.Proofs.Ytinhlaiogkmkfaa.G
open Go.RowKit
set_option linter.unusedVariables false
theorem El.appendW {P : Program} {T Ts : TypeId} {α : Type} (E : El P T Ts α) {ops : Array Oper} {rest : List Oper} {o : Oper} {a : Act} {W : World} {Q : Exit → Act → World → Prop} (hgd : o.guard = none) (s y : Operand)
    (ho : o.op = .call { callee := .builtin .append, args := #[s, y], argTypes := #[Ts, Ts] }) (hty : o.type = Ts)
    (base : Nat) (v : Value) (l : List α) (hs : a.eval s = v) (hI : E.Own W base v l) (ad : Addr) (m c : Nat) (ns : List α) (hm : ns.length = m) (hpos : 0 < m) (hy : a.eval y = .slice (some ad) m c)
    (hc : ∀ j u, (E.cells ns)[j]? = some u → W.cell? (ad.add j) = some u) (hw : 0 < E.wd) (hl : (l.length + m) * E.wd ≤ 140737488355328) (hb : base ≤ W.heap.size)
    (h : ∀ g2 c2 w', E.Own w' base (.slice (some ⟨g2, 0, none⟩) (l.length + m) c2) (l ++ ns) → W.grownBy w' v.ownBlock → (v.ownBlock = some g2 ∨ g2 = W.heap.size) → wpList P ops Q rest (a.put o.dst (.slice (some ⟨g2, 0, none⟩) (l.length + m) c2)) w') : wpList P ops Q (o :: rest) a W := by
  obtain ⟨i, h1, h2, h3, h4⟩ := info_get E.hi
  have hn : l.length + m ≤ 140737488355328 := Nat.le_trans (Nat.le_mul_of_pos_right _ hw) hl
  refine wpList_plain hgd fun _ hK => wp_append_lies W s y Ts ho base T i E.zero E.sz E.wd E.hu h1 h2 h3 h4 E.hzs E.hpos v l.length (E.cells l) hs hI ad m c (E.cells ns) hy (by rw [E.cells_length, hm]) hc (E.cells_all ns) hpos (by unfold maxLen; omega) hl hb _ rfl (fun g cap w' h5 h6 h7 _ => hK _ _ (h g cap w' ?_ h6 h7))
  unfold Own
  rw [List.length_append, hm, E.cells_append]
  exact h5
/-- Elements that lie in a block that was just made. -/
theorem El.cells_new {P : Program} {T Ts : TypeId} {α : Type} (E : El P T Ts α) {W : World} {g : Nat} {cs : Array Value} {t : TypeId} {ns : List α} (hb : W.heap[g]? = some (.cells cs t (0, 0))) (hcs : cs.toList = E.cells ns) :
    ∀ j u, (E.cells ns)[j]? = some u → W.cell? ((⟨g, 0, none⟩ : Addr).add j) = some u := by
  intro j u hj
  rw [addr_add, cell_of_row W g _ cs _ _ hb, ← Array.getElem?_toList, hcs, Nat.zero_add]
  exact hj
end Go.Proofs.Ytinhlaiogkmkfaa.G
end
section
/- Rows of steps of the call's own. -/
namespace Go.Proofs.Ytinhlaiogkmkfaa.PA
open Go.RowKit Go.Proofs.YtinhlaiogkmkfaaW.PrintWords Go.Proofs.YtinhlaiogkmkfaaW.PrintLast Go.Proofs.YtinhlaiogkmkfaaW.PrintMore Go.Proofs.Ytinhlaiogkmkfaa.G
set_option linter.unusedVariables false
set_option linter.unusedSimpArgs false
set_option maxRecDepth 100000
def e45 : El Try.prog 45 22 S45 where
  enc x := [.int .i64 x.f0, .string x.f1]
  sz := 2
  wd := 24
  zero := .agg #[.int .i64 0, .string ByteArray.empty]
  hpos := by decide
  henc _ := rfl
  hone q u hu := by
    simp only [List.mem_cons, List.not_mem_nil, or_false] at hu
    rcases hu with rfl | rfl <;> rfl
  hi := by kernel_rfl
  hzs := rfl
  hu := Try.underlying22
theorem R_e45 {w : World} {base : Nat} {ok : Nat → Prop} {v : Value} {l : List S45} (h : Kd.R k45 45 w base ok v l) : e45.Own w base v l := by
  obtain ⟨_, inner, ho, hr⟩ := h
  have e : inner = e45.cells l := by
    have hlen : inner.length = l.length * 2 := hr.1
    have hc : (e45.cells l).length = l.length * 2 := e45.cells_length l
    refine List.ext_getElem (hlen.trans hc.symm) fun n h1 h2 => ?_
    obtain ⟨j, i, rfl, hi⟩ : ∃ j i, n = j * 2 + i ∧ i < 2 := ⟨n / 2, n % 2, by omega, by omega⟩
    have hj : j < l.length := by omega
    have hk := k45_openM (hr.2 j l[j] (List.getElem?_eq_getElem hj))
    have e1 : inner[j * 2 + i]? = ((inner.drop (j * 2)).take 2)[i]? := by rw [List.getElem?_take, if_pos hi, List.getElem?_drop]
    have hk' : (inner.drop (j * 2)).take 2 = [.int .i64 l[j].f0, .string l[j].f1] := hk
    have e2 := e45.cells_at l j l[j] i (List.getElem?_eq_getElem hj) hi
    rw [hk'] at e1
    have e3 : some inner[j * 2 + i] = some (e45.cells l)[j * 2 + i] := by
      rw [← List.getElem?_eq_getElem h1, ← List.getElem?_eq_getElem h2, e1]
      exact e2.symm
    exact Option.some.inj e3
  subst e
  exact ho
/-- Elements that lie from an address on. -/
theorem C_e45 {w : World} {g o n : Nat} {l : List S45} (hn : l.length = n) (hm : n ≤ 9223372036854775807) (h : ∀ j u, (e45.cells l)[j]? = some u → w.cell? ((⟨g, o, none⟩ : Addr).add j) = some u) : Kd.C k45 w (some ⟨g, o, none⟩) n l := by
  refine ⟨hn, hm, fun _ => ⟨_, rfl, fun j p hp => ⟨[.int .i64 p.f0, .string p.f1], rfl, k45_mk w p, fun i u hu => ?_⟩⟩⟩
  have hi : i < 2 := (List.getElem?_eq_some_iff.1 hu).1
  have := e45.cells_at l j p i hp hi
  exact h _ u (this.trans hu)
theorem C_own45 {w : World} {base g n c : Nat} {l0 l1 : List S45} (h : e45.Own w base (.slice (some ⟨g, 0, none⟩) n c) (l0 ++ l1)) (hm : (l0 ++ l1).length ≤ 9223372036854775807) : Kd.C k45 w (some ⟨g, 0, none⟩) l0.length l0 ∧ Kd.C k45 w (some ⟨g, l0.length * 2, none⟩) l1.length l1 := by
  rw [List.length_append] at hm
  constructor
  · have h2 := h.shrink
    refine C_e45 rfl (by omega) fun j u hj => ?_
    have h3 : e45.Own w base (.slice (some ⟨g, 0, none⟩) l0.length c) ([] ++ l0) := h2
    have := h3.part j u hj
    simpa using this
  · exact C_e45 rfl (by omega) h.part
end Go.Proofs.Ytinhlaiogkmkfaa.PA
end
section
/- RuleLogic's plain law: what is run on a stack leaves what lies below as it is; and, or, not, and the comparisons of two texts. -/
namespace Go.Proofs.Ytinhlaiogkmkfaa.G
open Go.RowKit
set_option linter.unusedVariables false
/-- A checked expression leaves one truth. -/
theorem checkB_run {t : List (Int × ByteArray)} (h : checkB t = true) : ∃ q, runC t [] = some [q] ∧ q.truth = true := by
  unfold checkB at h
  rw [Bool.and_eq_true] at h
  cases hr : runC t [] with
  | none => rw [hr] at h; cases h.2
  | some st =>
    rw [hr] at h
    match st, h.2 with
    | [q], h2 => exact ⟨q, rfl, h2⟩
end Go.Proofs.Ytinhlaiogkmkfaa.G
end
section
/- RuleLogic's walk: printed by a program of this session over the kit's print, cut down by gen_lg.py. Not trusted: Lean checks it. -/
namespace Go.Proofs.Ytinhlaiogkmkfaa.PA
open Go.RowKit Go.Proofs.YtinhlaiogkmkfaaW.PrintWords Go.Proofs.YtinhlaiogkmkfaaW.PrintLast Go.Proofs.YtinhlaiogkmkfaaW.PrintMore
attribute [local go_sem] max2_int min2_int max_two min_two max_three min_three max_four min_four
set_option linter.unusedVariables false
set_option linter.unusedSimpArgs false
attribute [local go_sem high] eqA45
/-! ### shuttlelaw12_RuleLogic: function 7 -/
end Go.Proofs.Ytinhlaiogkmkfaa.PA
end
section
/- RuleLogic: the law's function answers true. -/
namespace Go.Proofs.Ytinhlaiogkmkfaa.PA
open Go.RowKit Go.Proofs.YtinhlaiogkmkfaaW.PrintWords Go.Proofs.YtinhlaiogkmkfaaW.PrintLast Go.Proofs.YtinhlaiogkmkfaaW.PrintMore
set_option linter.unusedVariables false
theorem sayV_eq {l : List S45} {vs : List S56} (h : StepsFit l) (hv : VarsFit vs) (hc : okC l = true) : G.sayV (rule_say.vrs vs) (expr_Check.prs l) = some (sayB l vs) := by
  have e := say_eq h hv hc
  unfold rule_say.f at e
  by_cases c : rule_say.fit l vs = true
  · rw [if_pos c] at e
    exact e
  · rw [if_neg c] at e
    cases e
end Go.Proofs.Ytinhlaiogkmkfaa.PA
end
section
/- RuleFolded's walk: printed by a program of this session over the kit's print, cut down by truths.py. Not trusted: Lean checks it. -/
namespace Go.Proofs.Ytinhlaiogkmkfaa.PA
open Go.RowKit Go.Proofs.YtinhlaiogkmkfaaW.PrintWords Go.Proofs.YtinhlaiogkmkfaaW.PrintLast Go.Proofs.YtinhlaiogkmkfaaW.PrintMore
attribute [local go_sem] max2_int min2_int max_two min_two max_three min_three max_four min_four
set_option linter.unusedVariables false
set_option linter.unusedSimpArgs false
attribute [local go_sem high] eqA45
/-! ### shuttlelaw12_RuleFolded: function 6 -/
end Go.Proofs.Ytinhlaiogkmkfaa.PA
end
section
/- RuleFolded: the law's function answers true. -/
namespace Go.Proofs.Ytinhlaiogkmkfaa.PA
open Go.RowKit Go.Proofs.YtinhlaiogkmkfaaW.PrintWords Go.Proofs.YtinhlaiogkmkfaaW.PrintLast Go.Proofs.YtinhlaiogkmkfaaW.PrintMore
set_option linter.unusedVariables false
theorem same_loop (p : List S45) (hl : p.length ≤ 140737488351232) : ∀ (d k i : Nat), p.length - i = d → i ≤ p.length → d < k → shuttlelaw0_SameSteps.l0 k p p i = some true := by
  intro d
  induction d with
  | zero =>
    intro k i hd hi hk
    obtain ⟨k, rfl⟩ : ∃ m, k = m + 1 := ⟨k - 1, by omega⟩
    unfold shuttlelaw0_SameSteps.l0
    rw [if_neg (by omega)]
  | succ d ih =>
    intro k i hd hi hk
    obtain ⟨k, rfl⟩ : ∃ m, k = m + 1 := ⟨k - 1, by omega⟩
    have hi' : i < p.length := by omega
    unfold shuttlelaw0_SameSteps.l0
    rw [if_pos (by omega), if_pos (by omega), if_pos (by omega), if_neg (by simp), wrap_up hi' hl]
    exact ih k (i + 1) (by omega) (by omega) (by omega)
theorem same_eq {p : List S45} {k : Nat} (hl : p.length ≤ 140737488351232) (hk : p.length < k) : shuttlelaw0_SameSteps.f k p p = some true := by
  unfold shuttlelaw0_SameSteps.f
  rw [if_pos rfl]
  exact same_loop p hl p.length k 0 (by omega) (by omega) hk
end Go.Proofs.Ytinhlaiogkmkfaa.PA
end
section
/- Lists lent with room behind them, looked at again, and written over: lists of steps. -/
namespace Go.Proofs.Ytinhlaiogkmkfaa.PA
open Go.RowKit Go.Proofs.YtinhlaiogkmkfaaW.PrintWords Go.Proofs.YtinhlaiogkmkfaaW.PrintLast Go.Proofs.YtinhlaiogkmkfaaW.PrintMore Go.Proofs.Ytinhlaiogkmkfaa.G
attribute [local simp, local go_sem] alloc_drewN setCell_drewN
set_option linter.unusedVariables false
set_option linter.unusedSimpArgs false
set_option maxRecDepth 100000
def sp45 : S45 := ⟨77, ⟨#[115, 112, 111, 105, 108, 116]⟩⟩
theorem drawn_but {w w' : World} (h : Drawn0 w w') : But No w w' := by
  obtain ⟨n, rfl⟩ := h
  exact (But.refl No w).drewN n
/-- A list lent: with two marked places behind it. -/
def LentS (w : World) (base : Nat) (l : List S45) (g c : Nat) : Prop := e45.Own w base (.slice (some ⟨g, 0, none⟩) (l.length + 2) c) (l ++ [sp45, sp45])
def LendPostS (w : World) (l : List S45) (e : Ending) (w' : World) : Prop := ∃ g c, e = .returned (.slice (some ⟨g, 0, none⟩) l.length c) ∧ l.length + 2 ≤ c ∧ LentS w' w.heap.size l g c ∧ But No w w'
theorem lent_cap {w : World} {base g n c : Nat} {l : List S45} {a b : S45} (h : e45.Own w base (.slice (some ⟨g, 0, none⟩) n c) (l ++ [a, b])) : l.length + 2 ≤ c ∧ l.length ≤ c ∧ c ≤ 9223372036854775807 := by
  have hcap := h.cap
  obtain ⟨g', c', e', _, _, _, hm⟩ := h.lit (by simp)
  injection e' with _ _ e3
  simp at hcap
  omega
set_option maxHeartbeats 8000000 in
theorem lendSteps0 (A0 : Option Addr) (c0 : Nat) (l : List S45) (w : World) (hr0 : Kd.C k45 w A0 l.length l) (hc0 : l.length ≤ c0) (hl : l.length < 5864062014803) :
    Calls Try.prog 12 #[.slice A0 l.length c0] w (LendPostS w l) := by
  have HR0 := Lib.hid hr0
  have hcp := copySteps_eq (l := l) (by omega)
  have HCP := Lib.hid hcp
  clear hr0 hcp
  go_enter Try.func12, Try.ntmps12
  go_wp2_with fail
  refine (shuttlelaw0_CopySteps.calls A0 c0 l l w HR0.out hc0 HCP.out).mono ?_
  rintro e w1 ⟨v, rfl, hv, hb⟩
  have hO := R_e45 hv
  obtain ⟨A, c, rfl⟩ := hO.slice
  have HO := Lib.hid hO
  have HB := Lib.hid (But.of_below (S := No) hb)
  have hsz := hb.size
  clear hv hO hb
  go_wp2_with (at_builtin; refine e45.appendW rfl _ _ rfl rfl w.heap.size (.slice A l.length c) l rfl (HO.out.alloc _) ⟨w1.heap.size, 0, none⟩ 2 2 [sp45, sp45] rfl (by decide) rfl (e45.cells_new (heap_alloc_new w1 _) rfl) (by decide) (by show (l.length + 2) * 24 ≤ _; omega) (by simp; omega) ?_; intro g2 c2 w2 hown hgrow _; obtain ⟨hcap, hcc, hcm⟩ := lent_cap hown)
  have HB2 := Lib.hid (El.Own.grown (HB.out.alloc _) (HO.out.alloc _) hgrow (Nat.le_refl _))
  have HO2 := Lib.hid hown
  clear hown hgrow
  go_ret
  exact ⟨g2, c2, rfl, hcap, HO2.out, HB2.out⟩
/-- A row is written over: the block stays a row of the type. -/
def RoomAt (w : World) (g n : Nat) (T : TypeId) (sz : Nat) (gk : Nat) (v : Value) (wr : World) : Prop :=
  ∃ (i : Nat) (cur : Array Value), gk = n - i ∧ i ≤ n ∧ v = .int .i64 (i : Int) ∧ But (One g) w wr ∧ wr.heap[g]? = some (.cells cur T (0, 0)) ∧ n * sz ≤ cur.size
theorem room_at {w W : World} {base g c : Nat} {l : List S45} (h : LentS w base l g c) (hb : But (One g) w W) (hn : But No w W) : RoomAt w g (l.length + 2) 45 2 (l.length + 2) (.int .i64 0) W := by
  have h' := El.Own.new h hn
  rcases h'.2 with ⟨hv, _⟩ | ⟨g', cap, cur, hv, hg, hh, hc, hm, hcs, ht⟩
  · cases hv
  · injection hv with hA hB hC
    injection hA with hA
    injection hA with hA
    subst hA
    refine ⟨0, cur, rfl, Nat.zero_le _, rfl, hb, hh, ?_⟩
    have e : (l ++ [sp45, sp45]).length = l.length + 2 := by simp
    rw [e] at hc
    rw [hcs]
    exact Nat.mul_le_mul_right _ hc
set_option maxHeartbeats 8000000 in
theorem keptSteps0 (base g c : Nat) (A0 : Option Addr) (c0 : Nat) (l : List S45) (w : World) (hL : LentS w base l g c) (hr0 : Kd.C k45 w A0 l.length l) (hc0 : l.length ≤ c0) (hl : l.length < 5864062014803) :
    Calls Try.prog 15 #[.slice (some ⟨g, 0, none⟩) l.length c, .slice A0 l.length c0] w fun e w' => e = .returned (.bool true) ∧ But (One g) w w' := by
  obtain ⟨hcap, hcc, hcm⟩ := lent_cap hL
  have hgl := hL.block.2.1
  have hCC := C_own45 hL (by simp; omega)
  have HL := Lib.hid hL
  have HR0 := Lib.hid hr0
  have HC1 := Lib.hid hCC.1
  have HC2 := Lib.hid hCC.2
  clear hL hr0 hCC
  have d0 : ¬ c = l.length := by omega
  go_enter Try.func15, Try.ntmps15
  go_wp2_with fail
  refine (shuttlelaw0_SameSteps.calls (l.length + 1) (some ⟨g, 0, none⟩) c l A0 c0 l true w HC1.out hcc HR0.out hc0 (same_eq (by omega) (by omega))).mono ?_
  rintro e w1 ⟨rfl, hb⟩
  have hb2 := drawn_but hb
  have HB1 := Lib.hid hb2
  have hsz := hb2.size
  clear hb hb2
  go_wp2_with fail
  refine (shuttlelaw0_SameSteps.calls 4 (some ⟨g, l.length * 2, none⟩) (c - l.length) [sp45, sp45] (some ⟨w1.heap.size, 0, none⟩) 2 [sp45, sp45] true _ (Kd.C_below HC2.out (But.belowNo (HB1.out.alloc _))) (by show 2 ≤ _; omega) (C_e45 rfl (by decide) (e45.cells_new (heap_alloc_new w1 _) rfl)) (Nat.le_refl _) (same_eq (by decide) (by decide))).mono ?_
  rintro e w2 ⟨rfl, hb⟩
  have hb2 := (HB1.out.alloc _).trans (drawn_but hb)
  have HB2 := Lib.hid hb2
  have HK := Lib.hid (room_at HL.out (hb2.mono (S' := One g) (fun _ _ c => c.elim)) hb2)
  clear hb hb2
  go_wp2_with fail
  go_loopg [7] (l.length + 2) (fun gk v7 wr => RoomAt w g (l.length + 2) 45 2 gk v7 wr)
  case atStart => exact HK.out
  case round =>
    obtain ⟨i, cur, hgk, hi, rfl, hb, hh, hs⟩ := hrel
    have HGK := Lib.hid hgk
    have HBt := Lib.hid hb
    have HH := Lib.hid hh
    have k0 := blkcell hh (i * 2)
    have k1 := blkcell hh (i * 2 + 1)
    have f0 := blkfree hh
    clear hgk hb hh
    by_cases hlt : i < l.length + 2
    · have g0 := k0 (by omega)
      have g1 := k1 (by omega)
      have dl : decide ((i : Int) < (l.length : Int) + 2) = true := by simp; omega
      have dl' : (i : Int) < (l.length : Int) + 2 := by omega
      clear k0 k1
      go_wp2_with fail
      go_roundg (l.length + 2 - (i + 1))
      case measure => rw [HGK.out]; omega
      case rel => exact ⟨i + 1, _, rfl, by omega, by go_num, (HBt.out.set1 _ _).set1 _ _, blkset (blkset HH.out _ _) _ _, by simpa using hs⟩
    · have dl : decide ((i : Int) < (l.length : Int) + 2) = false := by simp; omega
      have dl' : ¬ (i : Int) < (l.length : Int) + 2 := by omega
      clear k0 k1
      go_wp2_with fail
      go_ret
      exact ⟨rfl, HBt.out⟩
end Go.Proofs.Ytinhlaiogkmkfaa.PA
end
section
-- Printed by a program of this session over the kit's print, with contracts of this session's own. Not trusted: Lean checks it.
namespace Go.Proofs.Ytinhlaiogkmkfaa.PA
open Go.RowKit Go.Proofs.YtinhlaiogkmkfaaW.PrintWords Go.Proofs.YtinhlaiogkmkfaaW.PrintLast Go.Proofs.YtinhlaiogkmkfaaW.PrintMore
attribute [local go_sem] max2_int min2_int max_two min_two max_three min_three max_four min_four   -- for this text's walks alone
set_option linter.unusedVariables false
set_option linter.unusedSimpArgs false

theorem eqA56 (d : Nat) (w : World) (x0 y0 : ByteArray) (x1 y1 : ByteArray) :
    (Op.equalIn (d + 2) 56 (.agg #[.string x0, .string x1]) (.agg #[.string y0, .string y1])).run Try.prog w = .ok (x0.toList == y0.toList && (x1.toList == y1.toList)) w := by
  refine eqA_of Try.underlying56 (by kernel_rfl) ?_
  refine eqf_cons (by rfl) (by go_simp; rfl) (by go_simp; rfl) (by go_simp) ?_
  exact eqf_last (by rfl) (by go_simp; rfl) (by go_simp; rfl) (by go_simp)
attribute [local go_sem high] eqA56
/-! ### shuttlelaw0_SameVars: function 36 -/
def shuttlelaw0_SameVars.l0 : Nat → List (S56) → List (S56) → Int → Option (Bool)
  | 0, _, _, _ => none
  | k + 1, x0, x1, x5 => if x5 < (x0.length : Int) then (if 0 ≤ x5 then (if x5 < (x1.length : Int) then (if (!((((rd_T56 x0 x5).f0).toList) == (((rd_T56 x1 x5).f0).toList)) || (!((((rd_T56 x0 x5).f1).toList) == (((rd_T56 x1 x5).f1).toList)))) = true then (some false) else (shuttlelaw0_SameVars.l0 k x0 x1 (wrap64 (x5 + 1)))) else (none)) else (none)) else (some true)
def shuttlelaw0_SameVars.f (k : Nat) (l0 : List (S56)) (l1 : List (S56)) : Option (Bool) := if (l0.length : Int) = (l1.length : Int) then (shuttlelaw0_SameVars.l0 k l0 l1 0) else (some false)
set_option maxHeartbeats 8000000 in
set_option maxRecDepth 100000 in
theorem shuttlelaw0_SameVars.calls (k : Nat) (A0 : Option Addr) (c0 : Nat) (l0 : List (S56)) (A1 : Option Addr) (c1 : Nat) (l1 : List (S56)) (r : Bool) (w : World) (hr0 : Kd.C k56 w A0 l0.length l0) (hc0 : l0.length ≤ c0) (hr1 : Kd.C k56 w A1 l1.length l1) (hc1 : l1.length ≤ c1) (h : shuttlelaw0_SameVars.f k l0 l1 = some r) :
    Calls Try.prog 36 #[.slice A0 l0.length c0, .slice A1 l1.length c1] w fun e w' => e = .returned (.bool r) ∧ Drawn0 w w' := by
  have hu56 := Try.underlying56
  have HR0 := Aside0.mk hr0
  have HC0 := Aside0.mk hc0
  clear hr0 hc0
  have HR1 := Aside0.mk hr1
  have HC1 := Aside0.mk hc1
  clear hr1 hc1
  have H : (if (l0.length : Int) = (l1.length : Int) then (shuttlelaw0_SameVars.l0 k l0 l1 0) else (some false)) = some r := h
  clear h
  by_cases c3 : (l0.length : Int) = (l1.length : Int)
  · rw [if_pos c3] at H
    have c3b0 : ((l0.length : Int) == (l1.length : Int)) = true := beq_iff_eq.mpr c3
    have c3b1 : ((l0.length : Int) != (l1.length : Int)) = false := bne_eq_false_iff_eq.mpr c3
    have c3b2 : (l0.length == l1.length) = true := by first | simpa using c3 | (simp at c3 ⊢; omega)
    clear c3
    have H' := Aside0.mk H
    clear H
    go_enter Try.func36, Try.ntmps36
    go_wp2
    repeat (go_quiet (fail); try go_wp2)
    go_loopg [5] k (fun kq v5 w' => ∃ (x5_1 : Int), v5 = .int .i64 x5_1 ∧ Aside0 (shuttlelaw0_SameVars.l0 kq l0 l1 x5_1 = some r) ∧ Aside0 (kq ≤ k) ∧ Drawn0 w w')
    case atStart => exact ⟨(0), (by first | rfl | (simp; done) | (simp [*]; done)), H', ⟨Nat.le_refl _⟩, by repeat (first | exact Drawn0.refl _ | apply Drawn0.step)⟩
    case round =>
      clear H'
      try clear c1
      try clear p2
      try clear c3
      try clear c3b0
      try clear c3b1
      try clear c3b2
      obtain ⟨x5_1, rfl, HA, HK1, ⟨m1, rfl⟩⟩ := hrel
      cases gk with
      | zero => exact absurd HA.out (by simp [shuttlelaw0_SameVars.l0])
      | succ k1 =>
        have H := HA.out
        clear HA
        simp only [shuttlelaw0_SameVars.l0] at H
        by_cases c4 : x5_1 < (l0.length : Int)
        · rw [if_pos c4] at H
          have c4b0 : decide (x5_1 < (l0.length : Int)) = true := decide_eq_true c4
          clear c4
          by_cases c5 : 0 ≤ x5_1
          · rw [if_pos c5] at H
            have c5b0 : decide (0 ≤ x5_1) = true := decide_eq_true c5
            clear c5
            by_cases c6 : x5_1 < (l1.length : Int)
            · rw [if_pos c6] at H
              have c6b0 : decide (x5_1 < (l1.length : Int)) = true := decide_eq_true c6
              clear c6
              by_cases c7 : (!((((rd_T56 l0 x5_1).f0).toList) == (((rd_T56 l1 x5_1).f0).toList)) || (!((((rd_T56 l0 x5_1).f1).toList) == (((rd_T56 l1 x5_1).f1).toList)))) = true
              · rw [if_pos c7] at H
                have c7b0 : (!((((rd_T56 l0 x5_1).f0).toList) == (((rd_T56 l1 x5_1).f0).toList)) || (!((((rd_T56 l0 x5_1).f1).toList) == (((rd_T56 l1 x5_1).f1).toList)))) = true := c7
                clear c7
                obtain rfl := Option.some.inj H
                have p234 : 0 ≤ (x5_1 : Int) := of_decide_eq_true (by first | (with_reducible assumption) | assumption)
                have q234 : x5_1 < (l0.length : Int) := of_decide_eq_true (by first | (with_reducible assumption) | assumption)
                obtain ⟨ad234, e234, hx234_0, hx234_1⟩ := at_T56 HR0.out x5_1 p234 q234
                cases e234
                replace p234 := eq_true p234
                replace q234 := eq_true q234
                have p235 : 0 ≤ (x5_1 : Int) := of_decide_eq_true (by first | (with_reducible assumption) | assumption)
                have q235 : x5_1 < (l1.length : Int) := of_decide_eq_true (by first | (with_reducible assumption) | assumption)
                obtain ⟨ad235, e235, hx235_0, hx235_1⟩ := at_T56 HR1.out x5_1 p235 q235
                cases e235
                replace p235 := eq_true p235
                replace q235 := eq_true q235
                go_wp2
                repeat (go_quiet (fail); try go_wp2)
                go_ret
                exact ⟨by first | rfl | (simp; done) | (simp [*]; done), by repeat (first | exact Drawn0.refl _ | apply Drawn0.step)⟩
              · rw [if_neg c7] at H
                have c7b0 : (!((((rd_T56 l0 x5_1).f0).toList) == (((rd_T56 l1 x5_1).f0).toList)) || (!((((rd_T56 l0 x5_1).f1).toList) == (((rd_T56 l1 x5_1).f1).toList)))) = false := by simpa using c7
                clear c7
                have H' := Aside0.mk H
                clear H
                have p234 : 0 ≤ (x5_1 : Int) := of_decide_eq_true (by first | (with_reducible assumption) | assumption)
                have q234 : x5_1 < (l0.length : Int) := of_decide_eq_true (by first | (with_reducible assumption) | assumption)
                obtain ⟨ad234, e234, hx234_0, hx234_1⟩ := at_T56 HR0.out x5_1 p234 q234
                cases e234
                replace p234 := eq_true p234
                replace q234 := eq_true q234
                have p235 : 0 ≤ (x5_1 : Int) := of_decide_eq_true (by first | (with_reducible assumption) | assumption)
                have q235 : x5_1 < (l1.length : Int) := of_decide_eq_true (by first | (with_reducible assumption) | assumption)
                obtain ⟨ad235, e235, hx235_0, hx235_1⟩ := at_T56 HR1.out x5_1 p235 q235
                cases e235
                replace p235 := eq_true p235
                replace q235 := eq_true q235
                go_wp2
                repeat (go_quiet (fail); try go_wp2)
                go_roundg k1
                case measure => have := HK1.out; omega
                case rel => exact ⟨(wrap64 (x5_1 + 1)), (by first | rfl | (simp; done) | (simp [*]; done)), H', ⟨by have := HK1.out; omega⟩, by repeat (first | exact Drawn0.refl _ | apply Drawn0.step)⟩
            · rw [if_neg c6] at H
              exact absurd H (by simp)
          · rw [if_neg c5] at H
            exact absurd H (by simp)
        · rw [if_neg c4] at H
          have c4b0 : decide (x5_1 < (l0.length : Int)) = false := decide_eq_false c4
          clear c4
          obtain rfl := Option.some.inj H
          go_wp2
          repeat (go_quiet (fail); try go_wp2)
          go_ret
          exact ⟨by first | rfl | (simp; done) | (simp [*]; done), by repeat (first | exact Drawn0.refl _ | apply Drawn0.step)⟩
  · rw [if_neg c3] at H
    have c3b0 : ((l0.length : Int) == (l1.length : Int)) = false := beq_eq_false_iff_ne.mpr c3
    have c3b1 : ((l0.length : Int) != (l1.length : Int)) = true := bne_iff_ne.mpr c3
    have c3b2 : (l0.length == l1.length) = false := by first | simpa using c3 | (simp at c3 ⊢; omega)
    obtain rfl := Option.some.inj H
    go_enter Try.func36, Try.ntmps36
    go_wp2
    repeat (go_quiet (fail); try go_wp2)
    go_ret
    exact ⟨by first | rfl | (simp; done) | (simp [*]; done), by repeat (first | exact Drawn0.refl _ | apply Drawn0.step)⟩

-- NOT PRINTED: function 16 (shuttlelaw0_KeptVars)

/-! ### shuttleref12_WhenIs: function 44 -/
def shuttleref12_WhenIs.f (a0 : Int) : Option (Bool) := if a0 ≥ 0 then (some (decide (a0 ≤ 3))) else (some false)
set_option maxHeartbeats 8000000 in
set_option maxRecDepth 100000 in
theorem shuttleref12_WhenIs.calls (a0 : Int) (r : Bool) (w : World) (h : shuttleref12_WhenIs.f a0 = some r) :
    Calls Try.prog 44 #[.int .i64 a0] w fun e w' => e = .returned (.bool r) ∧ Drawn0 w w' := by
  have H : (if a0 ≥ 0 then (some (decide (a0 ≤ 3))) else (some false)) = some r := h
  clear h
  by_cases c2 : a0 ≥ 0
  · rw [if_pos c2] at H
    have c2b0 : decide (0 ≤ a0) = true := decide_eq_true c2
    clear c2
    obtain rfl := Option.some.inj H
    go_enter Try.func44, Try.ntmps44
    go_wp2
    go_ret
    exact ⟨by first | rfl | (simp; done) | (simp [*]; done), by repeat (first | exact Drawn0.refl _ | apply Drawn0.step)⟩
  · rw [if_neg c2] at H
    have c2b0 : decide (0 ≤ a0) = false := decide_eq_false c2
    clear c2
    obtain rfl := Option.some.inj H
    go_enter Try.func44, Try.ntmps44
    go_wp2
    go_ret
    exact ⟨by first | rfl | (simp; done) | (simp [*]; done), by repeat (first | exact Drawn0.refl _ | apply Drawn0.step)⟩

end Go.Proofs.Ytinhlaiogkmkfaa.PA
end
section
/- Lists lent with room behind them, looked at again, and written over: lists of variables. -/
namespace Go.Proofs.Ytinhlaiogkmkfaa.PA
open Go.RowKit Go.Proofs.YtinhlaiogkmkfaaW.PrintWords Go.Proofs.YtinhlaiogkmkfaaW.PrintLast Go.Proofs.YtinhlaiogkmkfaaW.PrintMore Go.Proofs.Ytinhlaiogkmkfaa.G
attribute [local simp, local go_sem] alloc_drewN setCell_drewN
set_option linter.unusedVariables false
set_option linter.unusedSimpArgs false
set_option maxRecDepth 100000
theorem sameV_loop (p : List S56) (hl : p.length ≤ 140737488351232) : ∀ (d k i : Nat), p.length - i = d → i ≤ p.length → d < k → shuttlelaw0_SameVars.l0 k p p i = some true := by
  intro d
  induction d with
  | zero =>
    intro k i hd hi hk
    obtain ⟨k, rfl⟩ : ∃ m, k = m + 1 := ⟨k - 1, by omega⟩
    unfold shuttlelaw0_SameVars.l0
    rw [if_neg (by omega)]
  | succ d ih =>
    intro k i hd hi hk
    obtain ⟨k, rfl⟩ : ∃ m, k = m + 1 := ⟨k - 1, by omega⟩
    have hi' : i < p.length := by omega
    unfold shuttlelaw0_SameVars.l0
    rw [if_pos (by omega), if_pos (by omega), if_pos (by omega), if_neg (by simp), wrap_up hi' hl]
    exact ih k (i + 1) (by omega) (by omega) (by omega)
theorem sameV_eq {p : List S56} {k : Nat} (hl : p.length ≤ 140737488351232) (hk : p.length < k) : shuttlelaw0_SameVars.f k p p = some true := by
  unfold shuttlelaw0_SameVars.f
  rw [if_pos rfl]
  exact sameV_loop p hl p.length k 0 (by omega) (by omega) hk
def e56 : El Try.prog 56 23 S56 where
  enc x := [.string x.f0, .string x.f1]
  sz := 2
  wd := 32
  zero := .agg #[.string ByteArray.empty, .string ByteArray.empty]
  hpos := by decide
  henc _ := rfl
  hone q u hu := by
    simp only [List.mem_cons, List.not_mem_nil, or_false] at hu
    rcases hu with rfl | rfl <;> rfl
  hi := by kernel_rfl
  hzs := rfl
  hu := Try.underlying23
theorem R_e56 {w : World} {base : Nat} {ok : Nat → Prop} {v : Value} {l : List S56} (h : Kd.R k56 56 w base ok v l) : e56.Own w base v l := by
  obtain ⟨_, inner, ho, hr⟩ := h
  have e : inner = e56.cells l := by
    have hlen : inner.length = l.length * 2 := hr.1
    have hc : (e56.cells l).length = l.length * 2 := e56.cells_length l
    refine List.ext_getElem (hlen.trans hc.symm) fun n h1 h2 => ?_
    obtain ⟨j, i, rfl, hi⟩ : ∃ j i, n = j * 2 + i ∧ i < 2 := ⟨n / 2, n % 2, by omega, by omega⟩
    have hj : j < l.length := by omega
    have hk := k56_openM (hr.2 j l[j] (List.getElem?_eq_getElem hj))
    have e1 : inner[j * 2 + i]? = ((inner.drop (j * 2)).take 2)[i]? := by rw [List.getElem?_take, if_pos hi, List.getElem?_drop]
    have hk' : (inner.drop (j * 2)).take 2 = [.string l[j].f0, .string l[j].f1] := hk
    have e2 := e56.cells_at l j l[j] i (List.getElem?_eq_getElem hj) hi
    rw [hk'] at e1
    have e3 : some inner[j * 2 + i] = some (e56.cells l)[j * 2 + i] := by
      rw [← List.getElem?_eq_getElem h1, ← List.getElem?_eq_getElem h2, e1]
      exact e2.symm
    exact Option.some.inj e3
  subst e
  exact ho
/-- Elements that lie from an address on. -/
theorem C_e56 {w : World} {g o n : Nat} {l : List S56} (hn : l.length = n) (hm : n ≤ 9223372036854775807) (h : ∀ j u, (e56.cells l)[j]? = some u → w.cell? ((⟨g, o, none⟩ : Addr).add j) = some u) : Kd.C k56 w (some ⟨g, o, none⟩) n l := by
  refine ⟨hn, hm, fun _ => ⟨_, rfl, fun j p hp => ⟨[.string p.f0, .string p.f1], rfl, k56_mk w p, fun i u hu => ?_⟩⟩⟩
  have hi : i < 2 := (List.getElem?_eq_some_iff.1 hu).1
  have := e56.cells_at l j p i hp hi
  exact h _ u (this.trans hu)
theorem C_own56 {w : World} {base g n c : Nat} {l0 l1 : List S56} (h : e56.Own w base (.slice (some ⟨g, 0, none⟩) n c) (l0 ++ l1)) (hm : (l0 ++ l1).length ≤ 9223372036854775807) : Kd.C k56 w (some ⟨g, 0, none⟩) l0.length l0 ∧ Kd.C k56 w (some ⟨g, l0.length * 2, none⟩) l1.length l1 := by
  rw [List.length_append] at hm
  constructor
  · have h2 := h.shrink
    refine C_e56 rfl (by omega) fun j u hj => ?_
    have h3 : e56.Own w base (.slice (some ⟨g, 0, none⟩) l0.length c) ([] ++ l0) := h2
    have := h3.part j u hj
    simpa using this
  · exact C_e56 rfl (by omega) h.part
def sp56 : S56 := ⟨⟨#[115, 112, 111, 105, 108, 116]⟩, ⟨#[115, 112, 111, 105, 108, 116]⟩⟩
/-- A list lent: with two marked places behind it. -/
def LentV (w : World) (base : Nat) (l : List S56) (g c : Nat) : Prop := e56.Own w base (.slice (some ⟨g, 0, none⟩) (l.length + 2) c) (l ++ [sp56, sp56])
def LendPostV (w : World) (l : List S56) (e : Ending) (w' : World) : Prop := ∃ g c, e = .returned (.slice (some ⟨g, 0, none⟩) l.length c) ∧ l.length + 2 ≤ c ∧ LentV w' w.heap.size l g c ∧ But No w w'
theorem lent_capV {w : World} {base g n c : Nat} {l : List S56} {a b : S56} (h : e56.Own w base (.slice (some ⟨g, 0, none⟩) n c) (l ++ [a, b])) : l.length + 2 ≤ c ∧ l.length ≤ c ∧ c ≤ 9223372036854775807 := by
  have hcap := h.cap
  obtain ⟨g', c', e', _, _, _, hm⟩ := h.lit (by simp)
  injection e' with _ _ e3
  simp at hcap
  omega
set_option maxHeartbeats 8000000 in
theorem lendVars0 (A0 : Option Addr) (c0 : Nat) (l : List S56) (w : World) (hr0 : Kd.C k56 w A0 l.length l) (hc0 : l.length ≤ c0) (hl : l.length < 4398046511102) :
    Calls Try.prog 13 #[.slice A0 l.length c0] w (LendPostV w l) := by
  have HR0 := Lib.hid hr0
  have hcp := copyVars_eq (l := l) (by omega)
  have HCP := Lib.hid hcp
  clear hr0 hcp
  go_enter Try.func13, Try.ntmps13
  go_wp2_with fail
  refine (shuttlelaw0_CopyVars.calls A0 c0 l l w HR0.out hc0 HCP.out).mono ?_
  rintro e w1 ⟨v, rfl, hv, hb⟩
  have hO := R_e56 hv
  obtain ⟨A, c, rfl⟩ := hO.slice
  have HO := Lib.hid hO
  have HB := Lib.hid (But.of_below (S := No) hb)
  have hsz := hb.size
  clear hv hO hb
  go_wp2_with (at_builtin; refine e56.appendW rfl _ _ rfl rfl w.heap.size (.slice A l.length c) l rfl (HO.out.alloc _) ⟨w1.heap.size, 0, none⟩ 2 2 [sp56, sp56] rfl (by decide) rfl (e56.cells_new (heap_alloc_new w1 _) rfl) (by decide) (by show (l.length + 2) * 32 ≤ _; omega) (by simp; omega) ?_; intro g2 c2 w2 hown hgrow _; obtain ⟨hcap, hcc, hcm⟩ := lent_capV hown)
  have HB2 := Lib.hid (El.Own.grown (HB.out.alloc _) (HO.out.alloc _) hgrow (Nat.le_refl _))
  have HO2 := Lib.hid hown
  clear hown hgrow
  go_ret
  exact ⟨g2, c2, rfl, hcap, HO2.out, HB2.out⟩
theorem room_atV {w W : World} {base g c : Nat} {l : List S56} (h : LentV w base l g c) (hb : But (One g) w W) (hn : But No w W) : RoomAt w g (l.length + 2) 56 2 (l.length + 2) (.int .i64 0) W := by
  have h' := El.Own.new h hn
  rcases h'.2 with ⟨hv, _⟩ | ⟨g', cap, cur, hv, hg, hh, hc, hm, hcs, ht⟩
  · cases hv
  · injection hv with hA hB hC
    injection hA with hA
    injection hA with hA
    subst hA
    refine ⟨0, cur, rfl, Nat.zero_le _, rfl, hb, hh, ?_⟩
    have e : (l ++ [sp56, sp56]).length = l.length + 2 := by simp
    rw [e] at hc
    rw [hcs]
    exact Nat.mul_le_mul_right _ hc
set_option maxHeartbeats 8000000 in
theorem keptVars0 (base g c : Nat) (A0 : Option Addr) (c0 : Nat) (l : List S56) (w : World) (hL : LentV w base l g c) (hr0 : Kd.C k56 w A0 l.length l) (hc0 : l.length ≤ c0) (hl : l.length < 4398046511102) :
    Calls Try.prog 16 #[.slice (some ⟨g, 0, none⟩) l.length c, .slice A0 l.length c0] w fun e w' => e = .returned (.bool true) ∧ But (One g) w w' := by
  obtain ⟨hcap, hcc, hcm⟩ := lent_capV hL
  have hgl := hL.block.2.1
  have hCC := C_own56 hL (by simp; omega)
  have HL := Lib.hid hL
  have HR0 := Lib.hid hr0
  have HC1 := Lib.hid hCC.1
  have HC2 := Lib.hid hCC.2
  clear hL hr0 hCC
  have d0 : ¬ c = l.length := by omega
  go_enter Try.func16, Try.ntmps16
  go_wp2_with fail
  refine (shuttlelaw0_SameVars.calls (l.length + 1) (some ⟨g, 0, none⟩) c l A0 c0 l true w HC1.out hcc HR0.out hc0 (sameV_eq (by omega) (by omega))).mono ?_
  rintro e w1 ⟨rfl, hb⟩
  have hb2 := drawn_but hb
  have HB1 := Lib.hid hb2
  have hsz := hb2.size
  clear hb hb2
  go_wp2_with fail
  refine (shuttlelaw0_SameVars.calls 4 (some ⟨g, l.length * 2, none⟩) (c - l.length) [sp56, sp56] (some ⟨w1.heap.size, 0, none⟩) 2 [sp56, sp56] true _ (Kd.C_below HC2.out (But.belowNo (HB1.out.alloc _))) (by show 2 ≤ _; omega) (C_e56 rfl (by decide) (e56.cells_new (heap_alloc_new w1 _) rfl)) (Nat.le_refl _) (sameV_eq (by decide) (by decide))).mono ?_
  rintro e w2 ⟨rfl, hb⟩
  have hb2 := (HB1.out.alloc _).trans (drawn_but hb)
  have HB2 := Lib.hid hb2
  have HK := Lib.hid (room_atV HL.out (hb2.mono (S' := One g) (fun _ _ c => c.elim)) hb2)
  clear hb hb2
  go_wp2_with fail
  go_loopg [7] (l.length + 2) (fun gk v7 wr => RoomAt w g (l.length + 2) 56 2 gk v7 wr)
  case atStart => exact HK.out
  case round =>
    obtain ⟨i, cur, hgk, hi, rfl, hb, hh, hs⟩ := hrel
    have HGK := Lib.hid hgk
    have HBt := Lib.hid hb
    have HH := Lib.hid hh
    have k0 := blkcell hh (i * 2)
    have k1 := blkcell hh (i * 2 + 1)
    have f0 := blkfree hh
    clear hgk hb hh
    by_cases hlt : i < l.length + 2
    · have g0 := k0 (by omega)
      have g1 := k1 (by omega)
      have dl : decide ((i : Int) < (l.length : Int) + 2) = true := by simp; omega
      have dl' : (i : Int) < (l.length : Int) + 2 := by omega
      clear k0 k1
      go_wp2_with fail
      go_roundg (l.length + 2 - (i + 1))
      case measure => rw [HGK.out]; omega
      case rel => exact ⟨i + 1, _, rfl, by omega, by go_num, (HBt.out.set1 _ _).set1 _ _, blkset (blkset HH.out _ _) _ _, by simpa using hs⟩
    · have dl : decide ((i : Int) < (l.length : Int) + 2) = false := by simp; omega
      have dl' : ¬ (i : Int) < (l.length : Int) + 2 := by omega
      clear k0 k1
      go_wp2_with fail
      go_ret
      exact ⟨rfl, HBt.out⟩
end Go.Proofs.Ytinhlaiogkmkfaa.PA
end
