/- Texts of this claim, joined: words and laws that the others use. -/
import Derived.Test.YtinhlaiogkmkfaaQPAx0
import Derived.Test.YtinhlaiogkmkfaaQPAx3
import Derived.Test.YtinhlaiogkmkfaaQPAx8
import Derived.Test.YtinhlaiogkmkfaaQVc
import Derived.Test.YtinhlaiogkmkfaaQWLast
import Derived.OpenShut
import Derived.SizedLaws
import Derived.DataReads
import Derived.Test.YtinhlaiogkmkfaaQPAx7
import Derived.Test.YtinhlaiogkmkfaaQPAx1
section
-- Printed by a program of this session over the kit's print, with contracts of this session's own. Not trusted: Lean checks it.
namespace Go.Proofs.Ytinhlaiogkmkfaa.PA
open Go.RowKit Go.Proofs.YtinhlaiogkmkfaaW.PrintWords Go.Proofs.YtinhlaiogkmkfaaW.PrintLast Go.Proofs.YtinhlaiogkmkfaaW.PrintMore
attribute [local go_sem] max2_int min2_int max_two min_two max_three min_three max_four min_four   -- for this text's walks alone
set_option linter.unusedVariables false
set_option linter.unusedSimpArgs false

/-! ### shuttlelaw0_CopyRules: function 25 -/
def shuttlelaw0_CopyRules.l0 : Nat → List (S48) → List (S48) → Int → Option ((List (S48)))
  | 0, _, _, _ => none
  | k + 1, x0, x3, x4 => if x4 < (x0.length : Int) then (if 0 ≤ x4 then ((shuttlelaw0_CopySteps.f ((rd_T48 x0 x4).f0)).bind fun t410 => (if x3.length < 4398046511104 then (shuttlelaw0_CopyRules.l0 k x0 (x3 ++ [(⟨t410, (rd_T48 x0 x4).f1⟩ : S48)]) (wrap64 (x4 + 1))) else (none))) else (none)) else (some x3)
def shuttlelaw0_CopyRules.f (k : Nat) (l0 : List (S48)) : Option ((List (S48))) := shuttlelaw0_CopyRules.l0 k l0 ([] : List (S48)) 0
theorem shuttlelaw0_CopyRules.mono_l : ∀ k, (∀ y0 y1 y2, LeO (shuttlelaw0_CopyRules.l0 k y0 y1 y2) (shuttlelaw0_CopyRules.l0 (k + 1) y0 y1 y2))
  | 0 => fun _ _ _ r h => by simp [shuttlelaw0_CopyRules.l0] at h
  | k + 1 => by
    have ih0 := shuttlelaw0_CopyRules.mono_l k
    · intro y0 y1 y2
      unfold shuttlelaw0_CopyRules.l0
      repeat' first
      | (with_reducible exact ih0 _ _ _)
      | (with_reducible exact LeO.refl _)
      | (with_reducible exact LeO.none _)
      | (with_reducible refine LeO.ite ?_ ?_)
      | (with_reducible refine LeO.bind ?_ (fun _ => ?_))
      | exact ih0 _ _ _
      | exact LeO.none _
      | refine LeO.ite ?_ ?_
      | refine LeO.bind ?_ (fun _ => ?_)
theorem shuttlelaw0_CopyRules.mono : ∀ a0 k, LeO (shuttlelaw0_CopyRules.f k a0) (shuttlelaw0_CopyRules.f (k + 1) a0) := by
  intro a0 k
  have ih0 := shuttlelaw0_CopyRules.mono_l k
  unfold shuttlelaw0_CopyRules.f
  repeat' first
      | (with_reducible exact ih0 _ _ _)
      | (with_reducible exact LeO.refl _)
      | (with_reducible exact LeO.none _)
      | (with_reducible refine LeO.ite ?_ ?_)
      | (with_reducible refine LeO.bind ?_ (fun _ => ?_))
      | exact ih0 _ _ _
      | exact LeO.none _
      | refine LeO.ite ?_ ?_
      | refine LeO.bind ?_ (fun _ => ?_)
def shuttlelaw0_CopyRules.T5 : Bool × List (List Nat × List Nat) := (true, [([], []), ([], []), ([], []), ([1, 2], [1, 2]), ([3], [3]), ([4], [4]), ([5], [5]), ([], []), ([], []), ([7, 8], [7, 8]), ([9], [9]), ([10], [10]), ([6, 11], [6, 11]), ([12], [12]), ([0, 13, 6], [0, 13]), ([14, 14, 0, 1, 2, 3, 4, 5, 6, 7, 8, 9, 10, 11, 12, 13, 14], [0, 14])])
def shuttlelaw0_CopyRules.B5 : List Nat := [0, 0, 0, 6, 14, 30, 62, 0, 0, 384, 896, 1920, 4094, 8190, 16383, 32767]
theorem shuttlelaw0_CopyRules.tab5 : rtab .any (opsOf Try.f25 5) = shuttlelaw0_CopyRules.T5 := by kernel_rfl
theorem shuttlelaw0_CopyRules.bits5 : waitsOk shuttlelaw0_CopyRules.T5.2 shuttlelaw0_CopyRules.B5 = true := by kernel_rfl
set_option maxHeartbeats 8000000 in
set_option maxRecDepth 100000 in
theorem shuttlelaw0_CopyRules.calls (k : Nat) (A0 : Option Addr) (c0 : Nat) (l0 : List (S48)) (r : List (S48)) (w : World) (hr0 : Kd.C k48 w A0 l0.length l0) (hc0 : l0.length ≤ c0) (h : shuttlelaw0_CopyRules.f k l0 = some r) :
    Calls Try.prog 25 #[.slice A0 l0.length c0] w fun e w' => ∃ v0_ : Value, e = .returned (v0_) ∧ Kd.S k48 48 w' w.heap.size (fun _ => True) v0_ r ∧ Below w.heap.size w w' := by
  have hu48 := Try.underlying48
  have HR0 := Aside0.mk hr0
  have HC0 := Aside0.mk hc0
  clear hr0 hc0
  have HB := Aside0.mk (Below.refl w.heap.size w)
  have H : (shuttlelaw0_CopyRules.l0 k l0 ([] : List (S48)) 0) = some r := h
  clear h
  have H' := Aside0.mk H
  clear H
  go_enter Try.func25, Try.ntmps25
  go_wp2
  go_loopg [3, 4] k (fun kq v3 v4 w' => ∃ (x3_1 : List (S48)) (x4_1 : Int), v4 = .int .i64 x4_1 ∧ Aside0 (shuttlelaw0_CopyRules.l0 kq l0 x3_1 x4_1 = some r) ∧ Aside0 (kq ≤ k) ∧ Aside0 (Kd.S k48 48 w' w.heap.size (fun _ => True) v3 x3_1) ∧ Aside0 (Below w.heap.size w w'))
  case atStart => exact ⟨(([] : List (S48))), (0), (by first | rfl | (simp; done) | (simp [*]; done)), H', ⟨Nat.le_refl _⟩, ⟨by first | exact Kd.S_nil _ _ _ _ _ | exact Kd.N_nil _ _ _ _ _ | exact Kd.V_nil _ _ _ _ _ | exact Kd.Q_nil _ _ _ _ _ | exact Kd.R_nil _ _ _ _ _⟩, ⟨by repeat (first | (with_reducible first | exact HB.out | apply below_alloc | apply pw_below_drewN | apply below_drew1) | exact HB.out)⟩⟩
  case round =>
    clear H'
    obtain ⟨x3_1, x4_1, rfl, HA, HK1, HO_3, HB⟩ := hrel
    cases gk with
    | zero => exact absurd HA.out (by simp [shuttlelaw0_CopyRules.l0])
    | succ k1 =>
      have H := HA.out
      clear HA
      simp only [shuttlelaw0_CopyRules.l0] at H
      by_cases c2 : x4_1 < (l0.length : Int)
      · rw [if_pos c2] at H
        have c2b0 : decide (x4_1 < (l0.length : Int)) = true := decide_eq_true c2
        clear c2
        by_cases c3 : 0 ≤ x4_1
        · rw [if_pos c3] at H
          have c3b0 : decide (0 ≤ x4_1) = true := decide_eq_true c3
          clear c3
          replace H := Option.bind_eq_some_iff.mp H
          obtain ⟨t410, A40, H⟩ := H
          replace H : (if x3_1.length < 4398046511104 then (shuttlelaw0_CopyRules.l0 k1 l0 (x3_1 ++ [(⟨t410, (rd_T48 l0 x4_1).f1⟩ : S48)]) (wrap64 (x4_1 + 1))) else (none)) = some r := H
          have A4 := Aside0.mk A40
          clear A40
          by_cases c5 : x3_1.length < 4398046511104
          · rw [if_pos c5] at H
            have LMc5 := Aside0.mk c5
            clear c5
            obtain ⟨y414, hy414⟩ : ∃ y_ : List (S48), y_ = (x3_1 ++ [(⟨t410, (rd_T48 l0 x4_1).f1⟩ : S48)]) := ⟨_, rfl⟩
            replace H : (shuttlelaw0_CopyRules.l0 k1 l0 y414 (wrap64 (x4_1 + 1))) = some r := by first | (rw [hy414]; with_reducible exact H) | (have H2_ := (Option.bind_some _ _).symm.trans H; rw [hy414]; with_reducible exact H2_) | (have H2_ := (Option.bind_some _ _).symm.trans H; with_reducible exact H2_) | with_reducible exact H | (rw [hy414]; exact H) | exact H
            have Ny414 := Aside0.mk hy414
            clear hy414
            have H' := Aside0.mk H
            clear H
            try go_wp2
            have n0_ := Aside0.mk (Kd.S_drew HO_3.out)
            have n1_ := Aside0.mk (below_drew1 HB.out)
            clear HO_3
            clear HB
            have HO_3 := n0_
            have HB := n1_
            clear n0_ n1_
            have p409 : 0 ≤ (x4_1 : Int) := of_decide_eq_true (by first | (with_reducible assumption) | assumption)
            have q409 : x4_1 < (l0.length : Int) := of_decide_eq_true (by first | (with_reducible assumption) | assumption)
            obtain ⟨ad409, A409_0, c409_0, e409, hx409_0, hx409_1, hl409_0, hi409_0⟩ := at_T48 HR0.out x4_1 p409 q409
            have hw409_1 := hx409_1
            have hw409_0 := hx409_0
            cases e409
            replace hx409_0 := (HB.out.cell (World.block_lt_of_cell? w _ hx409_0)).trans hx409_0
            replace hx409_1 := (HB.out.cell (World.block_lt_of_cell? w _ hx409_1)).trans hx409_1
            have HR409_0 := Aside0.mk hi409_0
            have HC409_0 := Aside0.mk hl409_0
            clear hi409_0 hl409_0
            replace p409 := eq_true p409
            replace q409 := eq_true q409
            have p413 : 0 ≤ (x4_1 : Int) := of_decide_eq_true (by first | (with_reducible assumption) | assumption)
            have q413 : x4_1 < (l0.length : Int) := of_decide_eq_true (by first | (with_reducible assumption) | assumption)
            obtain ⟨ad413, A413_0, c413_0, e413, hx413_0, hx413_1, hl413_0, hi413_0⟩ := at_T48 HR0.out x4_1 p413 q413
            have hw413_1 := hx413_1
            have hw413_0 := hx413_0
            obtain rfl : ad409 = ad413 := (by injection e413)
            replace hx413_0 := (HB.out.cell (World.block_lt_of_cell? w _ hx413_0)).trans hx413_0
            replace hx413_1 := (HB.out.cell (World.block_lt_of_cell? w _ hx413_1)).trans hx413_1
            have HR413_0 := Aside0.mk hi413_0
            have HC413_0 := Aside0.mk hl413_0
            clear hi413_0 hl413_0
            replace p413 := eq_true p413
            replace q413 := eq_true q413
            have ea_ := Option.some.inj (hx409_0.symm.trans hx413_0)
            injection ea_ with ea_ en_ ec_
            subst ea_
            subst ec_
            clear en_
            refine start_ (n := 16) (S := fun w' => w'.cell? (ad409.add ((x4_1).toNat * 2)) = some (.slice A409_0 ((rd_T48 l0 x4_1).f0).length c409_0) ∧ w'.cell? ⟨(ad409.add ((x4_1).toNat * 2)).block, (ad409.add ((x4_1).toNat * 2)).off + 1, none⟩ = some (.int .i64 ((rd_T48 l0 x4_1).f1)) ∧ w'.cell? (ad409.add ((x4_1).toNat * 2)) = some (.slice A409_0 ((rd_T48 l0 x4_1).f0).length c409_0) ∧ w'.cell? ⟨(ad409.add ((x4_1).toNat * 2)).block, (ad409.add ((x4_1).toNat * 2)).off + 1, none⟩ = some (.int .i64 ((rd_T48 l0 x4_1).f1))) (ds := []) #[false, false, false, false, false, false, false, false, false, false, false, false, false, false, false, false] (by kernel_rfl) rfl rfl ⟨((HB.out.cell (World.block_lt_of_cell? w _ hw409_0)).trans hw409_0), ((HB.out.cell (World.block_lt_of_cell? w _ hw409_1)).trans hw409_1), ((HB.out.cell (World.block_lt_of_cell? w _ hw413_0)).trans hw413_0), ((HB.out.cell (World.block_lt_of_cell? w _ hw413_1)).trans hw413_1)⟩ (fun hHeld => ?_); refine with_tabW shuttlelaw0_CopyRules.tab5 shuttlelaw0_CopyRules.bits5 (fun HT_ HW_ => ?_)
            generalize wr.drew = w6 at HO_3 HB HR409_0 HR413_0 hx409_0 hx409_1 hx413_0 hx413_1 hHeld ⊢
            refine pure_ (i := 0) (N := some 11) (v := ?_) (a' := ?_) #[true, false, false, false, false, false, false, false, false, false, false, false, false, false, false, false] rfl rfl (any_of HT_.out (by kernel_rfl)) (fun _ _ _ h => h) (Or.inl ⟨by rfl, ?_⟩) ?_ ?_
            rotate_left
            · intro w'
              go_simp
              with_reducible rfl
            rotate_left
            · simp only [Act.put, List.setIfInBounds_toArray, List.set_cons_zero, List.set_cons_succ, i64_w, i32_w]
              rfl
            refine pure_ (i := 1) (N := some 12) (v := ?_) (a' := ?_) #[true, true, false, false, false, false, false, false, false, false, false, false, false, false, false, false] rfl rfl (any_of HT_.out (by kernel_rfl)) (fun _ _ _ h => h) (Or.inl ⟨by rfl, ?_⟩) ?_ ?_
            rotate_left
            · intro w'
              go_simp
              with_reducible rfl
            rotate_left
            · simp only [Act.put, List.setIfInBounds_toArray, List.set_cons_zero, List.set_cons_succ, i64_w, i32_w]
              rfl
            refine pure_ (i := 2) (N := some 13) (v := ?_) (a' := ?_) #[true, true, true, false, false, false, false, false, false, false, false, false, false, false, false, false] rfl rfl (any_of HT_.out (by kernel_rfl)) (fun _ _ _ h => h) (Or.inl ⟨by rfl, ?_⟩) ?_ ?_
            rotate_left
            · intro w'
              go_simp
              with_reducible rfl
            rotate_left
            · simp only [Act.put, List.setIfInBounds_toArray, List.set_cons_zero, List.set_cons_succ, i64_w, i32_w]
              rfl
            refine pure_ (i := 3) (N := some 14) (v := ?_) (a' := ?_) #[true, true, true, true, false, false, false, false, false, false, false, false, false, false, false, false] rfl rfl (any_of HT_.out (by kernel_rfl)) (fun _ _ _ h => h) (Or.inl ⟨by rfl, ?_⟩) ?_ ?_
            rotate_left
            · intro w'
              go_simp
              with_reducible rfl
            rotate_left
            · simp only [Act.put, List.setIfInBounds_toArray, List.set_cons_zero, List.set_cons_succ, i64_w, i32_w]
              rfl
            refine pure_ (i := 4) (N := some 15) (v := ?_) (a' := ?_) #[true, true, true, true, true, false, false, false, false, false, false, false, false, false, false, false] rfl rfl (any_of HT_.out (by kernel_rfl)) (fun _ _ _ h => h) (Or.inl ⟨by rfl, ?_⟩) ?_ ?_
            rotate_left
            · intro w'
              go_simp
              with_reducible rfl
            rotate_left
            · simp only [Act.put, List.setIfInBounds_toArray, List.set_cons_zero, List.set_cons_succ, i64_w, i32_w]
              rfl
            refine pure_ (i := 7) (N := some 18) (v := ?_) (a' := ?_) #[true, true, true, true, true, false, false, true, false, false, false, false, false, false, false, false] rfl rfl (any_of HT_.out (by kernel_rfl)) (fun _ _ _ h => h) (Or.inl ⟨by rfl, ?_⟩) ?_ ?_
            rotate_left
            · intro w'
              go_simp
              with_reducible rfl
            rotate_left
            · simp only [Act.put, List.setIfInBounds_toArray, List.set_cons_zero, List.set_cons_succ, i64_w, i32_w]
              rfl
            refine pure_ (i := 8) (N := some 19) (v := ?_) (a' := ?_) #[true, true, true, true, true, false, false, true, true, false, false, false, false, false, false, false] rfl rfl (any_of HT_.out (by kernel_rfl)) (fun _ _ _ h => h) (Or.inl ⟨by rfl, ?_⟩) ?_ ?_
            rotate_left
            · intro w'
              go_simp
              with_reducible rfl
            rotate_left
            · simp only [Act.put, List.setIfInBounds_toArray, List.set_cons_zero, List.set_cons_succ, i64_w, i32_w]
              rfl
            refine pure_ (i := 9) (N := some 20) (v := ?_) (a' := ?_) #[true, true, true, true, true, false, false, true, true, true, false, false, false, false, false, false] rfl rfl (any_of HT_.out (by kernel_rfl)) (fun _ _ _ h => h) (Or.inl ⟨by rfl, ?_⟩) ?_ ?_
            rotate_left
            · intro w'
              go_simp
              with_reducible rfl
            rotate_left
            · simp only [Act.put, List.setIfInBounds_toArray, List.set_cons_zero, List.set_cons_succ, i64_w, i32_w]
              rfl
            refine pure_ (i := 10) (N := some 21) (v := ?_) (a' := ?_) #[true, true, true, true, true, false, false, true, true, true, true, false, false, false, false, false] rfl rfl (any_of HT_.out (by kernel_rfl)) (fun _ _ _ h => h) (Or.inl ⟨by rfl, ?_⟩) ?_ ?_
            rotate_left
            · intro w'
              go_simp
              with_reducible rfl
            rotate_left
            · simp only [Act.put, List.setIfInBounds_toArray, List.set_cons_zero, List.set_cons_succ, i64_w, i32_w]
              rfl
            refine take_ (i := 5) (N := some 16) (v := ?_) (a' := ?_) #[true, true, true, true, true, true, false, true, true, true, true, false, false, false, false, false] rfl rfl (take_ofW HT_.out HW_.out (by kernel_rfl)) (fun _ _ _ h => h) (Or.inl ⟨by rfl, ?_⟩) hHeld ?_ ?_
            rotate_left
            · rintro w' ⟨s0, s1, s2, s3⟩
              go_simp
              with_reducible rfl
            rotate_left
            · simp only [Act.put, List.setIfInBounds_toArray, List.set_cons_zero, List.set_cons_succ, i64_w, i32_w]
              rfl
            refine take_ (i := 11) (N := some 22) (v := ?_) (a' := ?_) #[true, true, true, true, true, true, false, true, true, true, true, true, false, false, false, false] rfl rfl (take_ofW HT_.out HW_.out (by kernel_rfl)) (fun _ _ _ h => h) (Or.inl ⟨by rfl, ?_⟩) hHeld ?_ ?_
            rotate_left
            · rintro w' ⟨s0, s1, s2, s3⟩
              go_simp
              with_reducible rfl
            rotate_left
            · simp only [Act.put, List.setIfInBounds_toArray, List.set_cons_zero, List.set_cons_succ, i64_w, i32_w]
              rfl
            refine one_ (i := 6) (N := some 17) #[true, true, true, true, true, true, true, true, true, true, true, true, false, false, false, false] rfl rfl (one_of HT_.out (by kernel_rfl)) (by decide) (fun K hK => ?_)
            refine goes_ Try.func20 (by kernel_rfl) rfl #[.slice A409_0 ((rd_T48 l0 x4_1).f0).length c409_0] (by rfl) rfl rfl (by (try simp only [List.map_toArray, List.map_cons, List.map_nil]); first | done | rfl | (simp only [List.length_drop, List.length_take]; rfl)) ?_
            with_reducible refine (shuttlelaw0_CopySteps.calls _ _ ((rd_T48 l0 x4_1).f0) t410 _ ?side1 ?side2 A4.out).mono ?_
            (case side1 => repeat (first | exact (Kd.C_below HR409_0.out HB.out) | (with_reducible refine Kd.C_alloc ?_ _) | (with_reducible refine Kd.C_drewN ?_ _) | (with_reducible refine Kd.C_drew ?_)))
            (case side2 => exact HC409_0.out)
            rintro e w7 ⟨v411, rfl, ho0, hb⟩
            refine ⟨_, rfl, ?_⟩
            have n0_ := Aside0.mk (Kd.S_elder' (by (with_reducible repeat (first | apply Kd.S_alloc | apply Kd.S_drewN | apply Kd.S_drew)); exact HO_3.out) (Kd.R_base ho0) hb)
            have n1_ := Aside0.mk (Kd.R_lower ho0 (below_size (by repeat (first | (with_reducible first | exact HB.out | apply below_alloc | apply pw_below_drewN | apply below_drew1) | exact HB.out))))
            have n2_ := Aside0.mk (below_step (by repeat (first | (with_reducible first | exact HB.out | apply below_alloc | apply pw_below_drewN | apply below_drew1) | exact HB.out)) hb)
            clear HO_3
            clear HB
            have HO_3 := n0_
            have HO412 := n1_
            have HB := n2_
            clear n0_ n1_ n2_
            (try clear hb)
            (try clear hb2)
            (try clear hk)
            (try clear hi)
            (try clear ho0)
            obtain ⟨Ao8, co8, eo8⟩ := Kd.R_slice HO412.out
            (first | subst eo8 | (injection eo8 with f1_ f2_ f3_; have f4_ := f1_.symm; have f5_ := f3_.symm; clear f1_ f2_ f3_; subst f4_; subst f5_))
            refine hK.out _ _ ⟨((HB.out.cell (World.block_lt_of_cell? w _ hw409_0)).trans hw409_0), ((HB.out.cell (World.block_lt_of_cell? w _ hw409_1)).trans hw409_1), ((HB.out.cell (World.block_lt_of_cell? w _ hw413_0)).trans hw413_0), ((HB.out.cell (World.block_lt_of_cell? w _ hw413_1)).trans hw413_1)⟩ (fun hHeld => ?_)
            clear hK K
            refine norm_ (a' := ?_) ?_ ?_
            rotate_left
            · show Act.put _ (some 17) _ = _
              simp only [Act.put, List.setIfInBounds_toArray, List.set_cons_zero, List.set_cons_succ, i64_w, i32_w]
              rfl
            refine pure_ (i := 12) (N := some 23) (v := ?_) (a' := ?_) #[true, true, true, true, true, true, true, true, true, true, true, true, true, false, false, false] rfl rfl (any_of HT_.out (by kernel_rfl)) (fun _ _ _ h => h) (Or.inl ⟨by rfl, ?_⟩) ?_ ?_
            rotate_left
            · intro w'
              go_simp
              with_reducible rfl
            rotate_left
            · simp only [Act.put, List.setIfInBounds_toArray, List.set_cons_zero, List.set_cons_succ, i64_w, i32_w]
              rfl
            refine one_ (i := 13) (N := some 24) #[true, true, true, true, true, true, true, true, true, true, true, true, true, true, false, false] rfl rfl (one_of HT_.out (by kernel_rfl)) (by decide) (fun K hK => ?_)
            refine value_ (w1 := ?_) (v := ?_) (by rfl) rfl ?_ ?_
            rotate_left 2
            · go_simp
              constructor
              · rfl
              · rfl
            refine hK.out _ _ ⟨(World.cell?_alloc_lt _ _ _ (World.block_lt_of_cell? _ _ (((HB.out.cell (World.block_lt_of_cell? w _ hw409_0)).trans hw409_0)))).trans (((HB.out.cell (World.block_lt_of_cell? w _ hw409_0)).trans hw409_0)), (World.cell?_alloc_lt _ _ _ (World.block_lt_of_cell? _ _ (((HB.out.cell (World.block_lt_of_cell? w _ hw409_1)).trans hw409_1)))).trans (((HB.out.cell (World.block_lt_of_cell? w _ hw409_1)).trans hw409_1)), (World.cell?_alloc_lt _ _ _ (World.block_lt_of_cell? _ _ (((HB.out.cell (World.block_lt_of_cell? w _ hw413_0)).trans hw413_0)))).trans (((HB.out.cell (World.block_lt_of_cell? w _ hw413_0)).trans hw413_0)), (World.cell?_alloc_lt _ _ _ (World.block_lt_of_cell? _ _ (((HB.out.cell (World.block_lt_of_cell? w _ hw413_1)).trans hw413_1)))).trans (((HB.out.cell (World.block_lt_of_cell? w _ hw413_1)).trans hw413_1))⟩ (fun hHeld => ?_)
            clear hK K
            refine norm_ (a' := ?_) ?_ ?_
            rotate_left
            · show Act.put _ (some 24) _ = _
              simp only [Act.put, List.setIfInBounds_toArray, List.set_cons_zero, List.set_cons_succ, i64_w, i32_w]
              rfl
            refine one_ (i := 14) (N := some 25) #[true, true, true, true, true, true, true, true, true, true, true, true, true, true, true, false] rfl rfl (one_of HT_.out (by kernel_rfl)) (by decide) (fun K hK => ?_)
            refine Kd.S_append_step k48 (w0 := w) w.heap.size (by rfl) (.tmp 11) (.tmp 24) 36 48 (.agg #[(.slice none 0 0), (.int .i64 0)]) 32 rfl Try.underlying36 info48 rfl (by decide) (by omega) u3 x3_1 (⟨t410, (rd_T48 l0 x4_1).f1⟩ : S48) [.slice Ao8 t410.length co8, .int .i64 ((rd_T48 l0 x4_1).f1)] (fun _ => True) (fun k_ => some k_ = (.slice Ao8 t410.length co8 : Value).ownBlock) rfl rfl ?aP (fun k_ hk_ => ((Kd.R_mono (ok' := fun k_ => ((fun _ => True)) k_ ∧ some k_ ≠ (u3 : Value).ownBlock) (Kd.R_apart' (HO412.out) (Kd.S_typed HO_3.out) (by decide)) (fun k_ hk => ⟨trivial, hk.2⟩))).1 k_ hk_.symm) ?aF ?aO ?aB ?aS ?aL ?_
            (case aP => exact k48_mkM _ _ _ (⟨t410, (rd_T48 l0 x4_1).f1⟩ : S48) (Kd.R_mono (Kd.R_tight rfl (Kd.R_mono (ok' := fun k_ => ((fun _ => True)) k_ ∧ some k_ ≠ (u3 : Value).ownBlock) (Kd.R_apart' (HO412.out) (Kd.S_typed HO_3.out) (by decide)) (fun k_ hk => ⟨trivial, hk.2⟩))) (fun _ h_ => h_)))
            (case aB => exact (by repeat (first | (with_reducible first | exact HB.out | apply below_alloc | apply pw_below_drewN | apply below_drew1) | exact HB.out)))
            (case aF => exact (fun _ _ => trivial))
            (case aO => exact (by (with_reducible repeat (first | apply Kd.S_alloc | apply Kd.S_drewN | apply Kd.S_drew)); exact Kd.S_mono HO_3.out (fun k_ hk => ⟨trivial, fun e_ => hk.2 e_⟩)))
            (case aS => exact (below_size (by repeat (first | (with_reducible first | exact HB.out | apply below_alloc | apply pw_below_drewN | apply below_drew1) | exact HB.out))))
            (case aL => have := LMc5.out; omega)
            intro v415 w9 ho hb hg hat
            rw [← Ny414.out] at ho
            have n0_ := Aside0.mk (hb)
            have n1_ := Aside0.mk (ho)
            clear HB
            clear HO_3
            clear HO412
            have HB := n0_
            have HO416 := n1_
            clear n0_ n1_
            clear ho hb hg hat
            refine hK.out _ _ ⟨((HB.out.cell (World.block_lt_of_cell? w _ hw409_0)).trans hw409_0), ((HB.out.cell (World.block_lt_of_cell? w _ hw409_1)).trans hw409_1), ((HB.out.cell (World.block_lt_of_cell? w _ hw413_0)).trans hw413_0), ((HB.out.cell (World.block_lt_of_cell? w _ hw413_1)).trans hw413_1)⟩ (fun hHeld => ?_)
            clear hK K
            refine norm_ (a' := ?_) ?_ ?_
            rotate_left
            · show Act.put _ (some 25) _ = _
              simp only [Act.put, List.setIfInBounds_toArray, List.set_cons_zero, List.set_cons_succ, i64_w, i32_w]
              rfl
            refine pure_ (i := 15) (N := some 3) (v := ?_) (a' := ?_) #[true, true, true, true, true, true, true, true, true, true, true, true, true, true, true, true] rfl rfl (any_of HT_.out (by kernel_rfl)) (fun _ _ _ h => h) (Or.inl ⟨by rfl, ?_⟩) ?_ ?_
            rotate_left
            · intro w'
              go_simp
              with_reducible rfl
            rotate_left
            · simp only [Act.put, List.setIfInBounds_toArray, List.set_cons_zero, List.set_cons_succ, i64_w, i32_w]
              rfl
            refine done_ (done_of HT_.out (by kernel_rfl)) ?_
            try go_wp2
            go_roundg k1
            case measure => have := HK1.out; omega
            case rel => exact ⟨(y414), (wrap64 (x4_1 + 1)), (by first | rfl | (simp; done) | (simp [*]; done)), H', ⟨by have := HK1.out; omega⟩, ⟨by (with_reducible repeat (first | apply Kd.S_alloc | apply Kd.S_drewN | apply Kd.S_drew)); exact HO416.out⟩, ⟨by repeat (first | (with_reducible first | exact HB.out | apply below_alloc | apply pw_below_drewN | apply below_drew1) | exact HB.out)⟩⟩
          · rw [if_neg c5] at H
            exact absurd H (by simp)
        · rw [if_neg c3] at H
          exact absurd H (by simp)
      · rw [if_neg c2] at H
        have c2b0 : decide (x4_1 < (l0.length : Int)) = false := decide_eq_false c2
        clear c2
        obtain rfl := Option.some.inj H
        go_wp2
        go_ret
        exact ⟨_, by first | rfl | (simp [errW_none, errW_some] <;> rfl) | (simp [*, errW_none, errW_some] <;> rfl), by (with_reducible repeat (first | apply Kd.S_alloc | apply Kd.S_drewN | apply Kd.S_drew)); exact HO_3.out, by repeat (first | (with_reducible first | exact HB.out | apply below_alloc | apply pw_below_drewN | apply below_drew1) | exact HB.out)⟩

/-! ### shuttlelaw0_Low: function 29 -/
def shuttlelaw0_Low.f (a0 : Int) : Option (Int) := some (Go.bits .and .i64 a0 9223372036854775807)
set_option maxHeartbeats 8000000 in
set_option maxRecDepth 100000 in
theorem shuttlelaw0_Low.calls (a0 : Int) (r : Int) (w : World) (h : shuttlelaw0_Low.f a0 = some r) :
    Calls Try.prog 29 #[.int .i64 a0] w fun e w' => e = .returned (.int .i64 r) ∧ Drawn0 w w' := by
  have H : (some (Go.bits .and .i64 a0 9223372036854775807)) = some r := h
  clear h
  obtain rfl := Option.some.inj H
  go_enter Try.func29, Try.ntmps29
  go_wp2
  go_ret
  exact ⟨by first | rfl | (simp; done) | (simp [*]; done), by repeat (first | exact Drawn0.refl _ | apply Drawn0.step)⟩

/-! ### shuttlelaw12_RuleFirst: function 8 -/
def shuttlelaw12_RuleFirst.l0 : Nat → List (S48) → List (S56) → Int → Int → Int → Int → Option (Bool)
  | 0, _, _, _, _, _, _ => none
  | k + 1, x0, x2, x3, x9, x11, x12 => if x12 ≥ 0 then (if 0 ≤ x12 then (if x12 < (x0.length : Int) then (if ((((rd_T48 x0 x12).f0).length : Int) = 0) then (if (((rd_T48 x0 x12).f0).length : Int) = 0 then (shuttlelaw12_RuleFirst.l0 k x0 x2 x3 x9 x12 (wrap64 (x12 - 1))) else (shuttlelaw12_RuleFirst.l0 k x0 x2 x3 x9 x11 (wrap64 (x12 - 1)))) else ((shuttlelaw0_CopySteps.f ((rd_T48 x0 x12).f0)).bind fun t429 => ((shuttlelaw0_CopyVars.f x2).bind fun t432 => ((rule_Eval.f t429 t432).bind fun bt435 => (if bt435.1 = true then (shuttlelaw12_RuleFirst.l0 k x0 x2 x3 x9 x12 (wrap64 (x12 - 1))) else (shuttlelaw12_RuleFirst.l0 k x0 x2 x3 x9 x11 (wrap64 (x12 - 1)))))))) else (none)) else (none)) else (if x11 < 0 then (if x9 = 3 then ((shuttlelaw12_awake.f k).bind fun t437 => (some t437)) else (some false)) else ((shuttlelaw0_Low.f x3).bind fun t438 => (if (wrap64 ((x0.length : Int) - x11)) = 0 then (none) else (if 0 ≤ (mn (wrap64 ((wrap64 (x11 + 1)) + (Int.tmod t438 (wrap64 ((x0.length : Int) - x11))))) (x0.length : Int)) then (if (mn (wrap64 ((wrap64 (x11 + 1)) + (Int.tmod t438 (wrap64 ((x0.length : Int) - x11))))) (x0.length : Int)) ≤ (x0.length : Int) then ((shuttlelaw0_CopyRules.f k (x0.take ((mn (wrap64 ((wrap64 (x11 + 1)) + (Int.tmod t438 (wrap64 ((x0.length : Int) - x11))))) (x0.length : Int)) : Int).toNat)).bind fun t443 => ((shuttlelaw0_CopyVars.f x2).bind fun t446 => ((rule_When.f k t443 3 t446).bind fun bt449 => (if 0 ≤ x11 then (if x11 < (x0.length : Int) then (if x9 = ((rd_T48 x0 x11).f1) then (if bt449.2 = 0 then (if bt449.1 = x9 then ((shuttlelaw12_awake.f k).bind fun t452 => (some t452)) else (some false)) else (some false)) else (some false)) else (none)) else (none))))) else (none)) else (none)))))
def shuttlelaw12_RuleFirst.f (k : Nat) (l0 : List (S48)) (a1 : Int) (l2 : List (S56)) (a3 : Int) : Option (Bool) := (shuttlelaw0_CopyRules.f k l0).bind fun t417 => ((shuttlelaw0_CopyVars.f l2).bind fun t420 => ((rule_When.f k t417 a1 t420).bind fun bt423 => (if bt423.2 = 0 then (if (l0.length : Int) = 0 then (if bt423.1 = a1 then ((shuttlelaw12_awake.f k).bind fun t426 => (some t426)) else (some false)) else (shuttlelaw12_RuleFirst.l0 k l0 l2 a3 bt423.1 (-1) (wrap64 ((l0.length : Int) - 1)))) else (if bt423.1 = 0 then ((shuttlelaw12_awake.f k).bind fun t425 => (some t425)) else (some false)))))
theorem shuttlelaw12_RuleFirst.mono_l : ∀ k, (∀ y0 y1 y2 y3 y4 y5, LeO (shuttlelaw12_RuleFirst.l0 k y0 y1 y2 y3 y4 y5) (shuttlelaw12_RuleFirst.l0 (k + 1) y0 y1 y2 y3 y4 y5))
  | 0 => fun _ _ _ _ _ _ r h => by simp [shuttlelaw12_RuleFirst.l0] at h
  | k + 1 => by
    have ih0 := shuttlelaw12_RuleFirst.mono_l k
    · intro y0 y1 y2 y3 y4 y5
      unfold shuttlelaw12_RuleFirst.l0
      repeat' first
      | (with_reducible exact ih0 _ _ _ _ _ _)
      | (with_reducible exact rule_When.mono _ _ _ _)
      | (with_reducible exact shuttlelaw0_CopyRules.mono _ _)
      | (with_reducible exact shuttlelaw12_awake.mono _)
      | (with_reducible exact LeO.refl _)
      | (with_reducible exact LeO.none _)
      | (with_reducible refine LeO.ite ?_ ?_)
      | (with_reducible refine LeO.bind ?_ (fun _ => ?_))
      | exact ih0 _ _ _ _ _ _
      | exact rule_When.mono _ _ _ _
      | exact shuttlelaw0_CopyRules.mono _ _
      | exact shuttlelaw12_awake.mono _
      | exact LeO.none _
      | refine LeO.ite ?_ ?_
      | refine LeO.bind ?_ (fun _ => ?_)
theorem shuttlelaw12_RuleFirst.mono : ∀ a0 a1 a2 a3 k, LeO (shuttlelaw12_RuleFirst.f k a0 a1 a2 a3) (shuttlelaw12_RuleFirst.f (k + 1) a0 a1 a2 a3) := by
  intro a0 a1 a2 a3 k
  have ih0 := shuttlelaw12_RuleFirst.mono_l k
  unfold shuttlelaw12_RuleFirst.f
  repeat' first
      | (with_reducible exact ih0 _ _ _ _ _ _)
      | (with_reducible exact rule_When.mono _ _ _ _)
      | (with_reducible exact shuttlelaw0_CopyRules.mono _ _)
      | (with_reducible exact shuttlelaw12_awake.mono _)
      | (with_reducible exact LeO.refl _)
      | (with_reducible exact LeO.none _)
      | (with_reducible refine LeO.ite ?_ ?_)
      | (with_reducible refine LeO.bind ?_ (fun _ => ?_))
      | exact ih0 _ _ _ _ _ _
      | exact rule_When.mono _ _ _ _
      | exact shuttlelaw0_CopyRules.mono _ _
      | exact shuttlelaw12_awake.mono _
      | exact LeO.none _
      | refine LeO.ite ?_ ?_
      | refine LeO.bind ?_ (fun _ => ?_)
end Go.Proofs.Ytinhlaiogkmkfaa.PA
end
section
/- rule.say: what is checked has an answer. -/
namespace Go.Proofs.Ytinhlaiogkmkfaa.G
open Go.RowKit
set_option linter.unusedVariables false
theorem snoc_of {α : Type} {l : List α} {n : Nat} (h : l.length = n + 1) : ∃ s a, l = s ++ [a] ∧ s.length = n := by
  rcases List.eq_nil_or_concat l with rfl | ⟨s, a, rfl⟩
  · cases h
  · exact ⟨s, a, by simp, by simpa using h⟩
theorem lay1_ok {sv : List Vl} {n : Nat} (h : sv.length = n + 1) (f : Vl → Bool) : ∃ sv', lay1 sv f = some sv' ∧ sv'.length = n + 1 := by
  obtain ⟨s, a, rfl, hs⟩ := snoc_of h
  exact ⟨_, by unfold lay1; rw [pop1_snoc]; rfl, by simpa using hs⟩
theorem lay2_ok {sv : List Vl} {n : Nat} (h : sv.length = n + 2) (f : Vl → Vl → Bool) : ∃ sv', lay2 sv f = some sv' ∧ sv'.length = n + 1 := by
  obtain ⟨s, a, rfl, hs⟩ := snoc_of (n := n + 1) h
  obtain ⟨s, b, rfl, hs⟩ := snoc_of hs
  refine ⟨_, by unfold lay2; rw [pop1_snoc, Option.bind_some]; show Option.map _ (pop1 (s ++ [b])) = _; rw [pop1_snoc]; rfl, by simpa using hs⟩
theorem step_on (vs : List (ByteArray × ByteArray)) {st st' : List Prt} {sv : List Vl} {k : Int} {tx : ByteArray} (h : stepC st k tx = some st') (hl : sv.length = st.length) :
    ∃ sv', stepV vs k tx sv = some sv' ∧ sv'.length = st'.length := by
  have pop : ∀ {m : Nat} {t : Bool} {ok : List Prt → Bool}, (match popC st m t with | some (s, l) => if ok l && tx.toList.isEmpty then some (s ++ [tru]) else none | none => none) = some st' → ∃ n, st'.length = n + 1 ∧ sv.length = n + m := by
    intro m t ok e
    split at e
    · rename_i s l hp
      split at e
      · injection e with e
        subst e
        obtain ⟨rfl, h1, _⟩ := popC_parts hp
        exact ⟨s.length, by simp, by rw [hl]; simp [h1]⟩
      · cases e
    · cases e
  have lift : ∀ {b : Bool} {q : Prt} (v : Vl), (if b then some (st ++ [q]) else none) = some st' → ∃ sv', some (sv ++ [v]) = some sv' ∧ sv'.length = st'.length := by
    intro b q v e
    split at e
    · injection e with e
      subst e
      exact ⟨_, rfl, by simp [hl]⟩
    · cases e
  have one : ∀ {f : Vl → Bool}, (∃ n, st'.length = n + 1 ∧ sv.length = n + 1) → ∃ sv', lay1 sv f = some sv' ∧ sv'.length = st'.length := by
    rintro f ⟨n, h1, h2⟩
    rw [h1]
    exact lay1_ok h2 f
  have two : ∀ {f : Vl → Vl → Bool}, (∃ n, st'.length = n + 1 ∧ sv.length = n + 2) → ∃ sv', lay2 sv f = some sv' ∧ sv'.length = st'.length := by
    rintro f ⟨n, h1, h2⟩
    rw [h1]
    exact lay2_ok h2 f
  unfold stepC at h
  simp only [] at h
  split at h
  · rename_i hk
    subst hk
    split at h
    · injection h with h
      subst h
      exact ⟨_, rfl, by simp [hl]⟩
    · cases h
  split at h
  · rename_i hk
    subst hk
    exact lift _ h
  split at h
  · rename_i hk
    subst hk
    exact lift _ h
  split at h
  · rename_i hk
    rcases hk with rfl | rfl
    · exact lift _ h
    · exact lift _ h
  split at h
  · rename_i hk
    subst hk
    exact one (f := fun a => !a.text.toList.isEmpty) (pop (ok := fun _ => true) h)
  split at h
  · rename_i hk
    rcases hk with rfl | rfl
    · exact two (f := fun a b => a.text.toList == b.text.toList) (pop (ok := fun _ => true) h)
    · exact two (f := fun a b => !(a.text.toList == b.text.toList)) (pop (ok := fun _ => true) h)
  split at h
  · rename_i hk
    rcases hk with rfl | rfl
    · exact two (f := fun a b => (matchRes b.text a.text).1) (pop (ok := fun l => match l[1]? with | some q => q.lit && (checkRes q.text).2 == 0 | none => false) h)
    · exact two (f := fun a b => !(matchRes b.text a.text).1) (pop (ok := fun l => match l[1]? with | some q => q.lit && (checkRes q.text).2 == 0 | none => false) h)
  split at h
  · rename_i hk
    subst hk
    exact one (f := fun a => !a.ok) (pop (ok := fun _ => true) h)
  split at h
  · rename_i hk
    rcases hk with rfl | rfl
    · exact two (f := fun a b => a.ok && b.ok) (pop (ok := fun _ => true) h)
    · exact two (f := fun a b => a.ok || b.ok) (pop (ok := fun _ => true) h)
  · cases h
theorem run_on (vs : List (ByteArray × ByteArray)) : ∀ (t : List (Int × ByteArray)) {st st' : List Prt} {sv : List Vl}, runC t st = some st' → sv.length = st.length → ∃ sv', runV vs t sv = some sv' ∧ sv'.length = st'.length := by
  intro t
  induction t with
  | nil =>
    intro st st' sv h hl
    injection h with h
    subst h
    exact ⟨sv, rfl, hl⟩
  | cons q r ih =>
    intro st st' sv h hl
    unfold runC at h
    rw [Option.bind_eq_some_iff] at h
    obtain ⟨s1, h1, h2⟩ := h
    obtain ⟨v1, h3, h4⟩ := step_on vs h1 hl
    obtain ⟨v2, h5, h6⟩ := ih h2 h4
    exact ⟨v2, by unfold runV; rw [h3]; exact h5, h6⟩
theorem say_some (vs : List (ByteArray × ByteArray)) {t : List (Int × ByteArray)} (h : checkB t = true) : ∃ b, sayV vs t = some b := by
  unfold checkB at h
  rw [Bool.and_eq_true] at h
  cases hr : runC t [] with
  | none => rw [hr] at h; cases h.2
  | some st =>
    rw [hr] at h
    match st, h.2 with
    | [q], _ =>
      obtain ⟨sv, h1, h2⟩ := run_on vs t (sv := []) hr rfl
      obtain ⟨s, a, rfl, _⟩ := snoc_of (n := 0) h2
      exact ⟨a.ok, by unfold sayV; rw [h1, Option.bind_some, pop1_snoc]; rfl⟩
theorem check_len {t : List (Int × ByteArray)} (h : checkB t = true) : t.length ≤ 1024 := by
  unfold checkB at h
  rw [Bool.and_eq_true] at h
  simpa using h.1
end Go.Proofs.Ytinhlaiogkmkfaa.G
end
section
/- When's rules: what the functions of the law compute. -/
namespace Go.Proofs.Ytinhlaiogkmkfaa.PA
open Go.RowKit Go.Proofs.YtinhlaiogkmkfaaW.PrintWords Go.Proofs.YtinhlaiogkmkfaaW.PrintLast Go.Proofs.YtinhlaiogkmkfaaW.PrintMore
set_option linter.unusedVariables false
/-- The sizes that a row's arguments have. -/
structure StepsFit (l : List S45) : Prop where
  len : l.length < 5864062014805
  each : ∀ x ∈ l, x.f1.size ≤ 140737488351232
structure VarsFit (l : List S56) : Prop where
  len : l.length < 4398046511104
  each : ∀ x ∈ l, x.f0.size ≤ 140737488351232 ∧ x.f1.size ≤ 140737488351232
structure RulesFit (l : List S48) : Prop where
  len : l.length ≤ 4398046511104
  each : ∀ x ∈ l, StepsFit x.f0
theorem wrap_up {i n : Nat} (h : i < n) (hn : n ≤ 140737488351232) : wrap64 ((i : Int) + 1) = ((i + 1 : Nat) : Int) := by
  unfold wrap64
  omega
theorem rd45 {l : List S45} {i : Nat} (h : i < l.length) : rd_T45 l (i : Int) = l[i] := by
  unfold rd_T45
  simp [h]
theorem copySteps_eq {l : List S45} (h : l.length < 5864062014805) : shuttlelaw0_CopySteps.f l = some l := by
  unfold shuttlelaw0_CopySteps.f
  simp [h]
theorem copyVars_eq {l : List S56} (h : l.length < 4398046511104) : shuttlelaw0_CopyVars.f l = some l := by
  unfold shuttlelaw0_CopyVars.f
  simp [h]
theorem RulesFit.take {l : List S48} (h : RulesFit l) (n : Nat) : RulesFit (l.take n) :=
  ⟨by have := h.len; rw [List.length_take]; omega, fun x hx => h.each x (List.mem_of_mem_take hx)⟩
/-- A rule's expression is one. -/
def okC (l : List S45) : Bool := G.checkB (expr_Check.prs l)
theorem check_eq {l : List S45} (h : StepsFit l) : expr_Check.f l = some (okC l) := by
  unfold expr_Check.f
  rw [if_pos]
  · rfl
  · unfold expr_Check.fit
    rw [Bool.and_eq_true, decide_eq_true_eq, List.all_eq_true]
    exact ⟨by have := h.len; omega, fun x hx => decide_eq_true (by have := h.each x hx; omega)⟩
/-- What a checked expression says. -/
def sayB (l : List S45) (vs : List S56) : Bool := (rule_say.f l vs).getD false
theorem say_eq {l : List S45} {vs : List S56} (h : StepsFit l) (hv : VarsFit vs) (hc : okC l = true) : rule_say.f l vs = some (sayB l vs) := by
  obtain ⟨b, hb⟩ := G.say_some (rule_say.vrs vs) hc
  have hl := G.check_len hc
  have hl' : l.length ≤ 1024 := by simpa [expr_Check.prs] using hl
  have hf : rule_say.fit l vs = true := by
    unfold rule_say.fit
    rw [Bool.and_eq_true, Bool.and_eq_true, Bool.and_eq_true, decide_eq_true_eq, decide_eq_true_eq, List.all_eq_true, List.all_eq_true]
    exact ⟨⟨by omega, fun x hx => decide_eq_true (by have := h.each x hx; omega)⟩, by have := hv.len; omega, fun x hx => decide_eq_true (by have := (hv.each x hx).2; omega)⟩
  have : rule_say.f l vs = some b := by
    unfold rule_say.f
    rw [if_pos hf]
    exact hb
  unfold sayB
  rw [this]
  rfl
/-- A rule that holds. -/
def holds (vs : List S56) (r : S48) : Bool := r.f0.isEmpty || sayB r.f0 vs
theorem eval_eq {l : List S45} {vs : List S56} (h : StepsFit l) (hv : VarsFit vs) (hc : okC l = true) : rule_Eval.f l vs = some (sayB l vs, 0) := by
  unfold rule_Eval.f
  rw [check_eq h, Option.bind_some, if_pos hc, say_eq h hv hc]
  rfl
/-- How far the law's search has come. -/
def Found (vs : List S56) (l : List S48) (i : Nat) (x : Int) : Prop :=
  (x = -1 ∧ ∀ m (h : m < l.length), i ≤ m → holds vs l[m] = false) ∨ (∃ j : Nat, ∃ h : j < l.length, x = (j : Int) ∧ i ≤ j ∧ holds vs l[j] = true ∧ ∀ m (h : m < j), i ≤ m → holds vs (l[m]'(by omega)) = false)
theorem Found.no {vs : List S56} {l : List S48} {i : Nat} {x : Int} (hi : i < l.length) (h : holds vs l[i] = false) (hf : Found vs l (i + 1) x) : Found vs l i x := by
  rcases hf with ⟨rfl, h1⟩ | ⟨j, hj, rfl, h1, h2, h3⟩
  · refine .inl ⟨rfl, fun m hm h2 => ?_⟩
    by_cases e : m = i
    · subst e; exact h
    · exact h1 m hm (by omega)
  · refine .inr ⟨j, hj, rfl, by omega, h2, fun m hm h4 => ?_⟩
    by_cases e : m = i
    · subst e; exact h
    · exact h3 m hm (by omega)
end Go.Proofs.Ytinhlaiogkmkfaa.PA
end
section
/- Arguments opened: whatever reads as data of a type is an element of the print's kind for it. -/
namespace Go.Proofs.Ytinhlaiogkmkfaa.G
open Go.RowKit Go.Proofs.YtinhlaiogkmkfaaW.PrintWords
set_option linter.unusedVariables false
set_option linter.unusedSimpArgs false
/-- Data of type t read as an α of kind d; bd: what its sizes say. -/
def Opens (P : Program) (t : TypeId) {α : Type} (d : Kd α) (bd : α → Prop) : Prop :=
  ∀ {H : Type} {enc : TypeId × Value → H} {w : World} {base : Nat} {spare : Nat → Bool} {held : Bool} {fuel : Nat} {cs : List Value} {x : DataW H × List MemPlace},
    DataW.trod enc P w base spare held fuel t cs = some x → ∃ a : α, d.K w a cs ∧ ((∀ n ∈ DataW.weights P t x.1, n ≤ reachBytes) → bd a)
section
variable {P : Program} {t e : TypeId} {α β : Type} {d : Kd α} {bd bd' : α → Prop}
theorem Opens.mono (h : Opens P t d bd) (hb : ∀ a, bd a → bd' a) : Opens P t d bd' := by
  intro H enc w base spare held fuel cs x hx
  obtain ⟨a, h1, h2⟩ := h hx
  exact ⟨a, h1, fun hn => hb a (h2 hn)⟩
theorem opens_int {k : IntKind} (ht : P.underlying t = some (.int k)) : Opens P t (Kd.int k) (fun n => (Lit.int k n).wf = true) := by
  intro H enc w base spare held fuel cs x hx
  obtain ⟨n, rfl, _, hw⟩ := DataW.trod_int ht hx
  exact ⟨n, rfl, fun _ => hw⟩
theorem opens_string (ht : P.underlying t = some .string) : Opens P t Kd.string (fun s => s.size ≤ 140737488351232) := by
  intro H enc w base spare held fuel cs x hx
  obtain ⟨s, rfl, rfl, _⟩ := DataW.trod_string ht hx
  refine ⟨s, rfl, fun hn => ?_⟩
  have := hn s.data.toList.length (by simp [DataW.weights])
  rw [Array.length_toList] at this
  exact this
theorem Opens.iso (h : Opens P t d bd) (f : β → α) (g : α → β) (hfg : ∀ a, f (g a) = a) : Opens P t (Kd.iso d f) (fun b => bd (f b)) := by
  intro H enc w base spare held fuel cs x hx
  obtain ⟨a, h1, h2⟩ := h hx
  refine ⟨g a, ?_, fun hn => ?_⟩
  · show d.K w (f (g a)) cs
    rw [hfg]; exact h1
  · show bd (f (g a))
    rw [hfg]; exact h2 hn
theorem list_of {Q : Nat → α → Prop} : ∀ n, (∀ i, i < n → ∃ z, Q i z) → ∃ xs : List α, xs.length = n ∧ ∀ i x, xs[i]? = some x → Q i x := by
  intro n
  induction n with
  | zero => intro _; exact ⟨[], rfl, fun i x h => by simp at h⟩
  | succ n ih =>
    intro h
    obtain ⟨xs, hl, hq⟩ := ih (fun i hi => h i (by omega))
    obtain ⟨z, hz⟩ := h n (by omega)
    refine ⟨xs ++ [z], by simp [hl], fun i x hx => ?_⟩
    by_cases hi : i < xs.length
    · rw [List.getElem?_append_left hi] at hx
      exact hq i x hx
    · rw [List.getElem?_append_right (by omega)] at hx
      have : i - xs.length = 0 := by
        cases hk : i - xs.length with
        | zero => rfl
        | succ k => rw [hk] at hx; simp at hx
      rw [this] at hx
      simp at hx
      subst hx
      rw [show i = n by omega]
      exact hz
theorem weightsAll_mem {H : Type} {P : Program} {e : TypeId} {l : List (DataW H)} {y : DataW H} (hy : y ∈ l) : ∀ n ∈ DataW.weights P e y, n ∈ DataW.weightsAll P e l := by
  induction l with
  | nil => cases hy
  | cons z r ih =>
    intro n hn
    unfold DataW.weightsAll
    rcases List.mem_cons.1 hy with rfl | h
    · exact List.mem_append_left _ hn
    · exact List.mem_append_right _ (ih h n hn)
theorem opens_slice (ht : P.underlying t = some (.slice e)) (h : Opens P e d bd) (hs : d.sz = P.cellsOf e) (et : Nat) : Opens P t (Kd.slice et d) (fun xs => (∀ a ∈ xs, bd a) ∧ xs.length * P.bytesOf e ≤ 140737488351232) := by
  intro H enc w base spare held fuel cs x hx
  rcases DataW.trod_slice ht hx with ⟨rfl, rfl⟩ | ⟨a, len, cap, elems, rest, n, _, rfl, rfl, hb, hl, hm, hlen, hel, hsp, hns⟩
  · exact ⟨[], ⟨none, 0, rfl, Nat.le_refl _, Kd.C_nil d w⟩, fun _ => ⟨fun a ha => (by cases ha), (by simp)⟩⟩
  · have each : ∀ i, i < len → ∃ z : α, ∃ (c : List Value) (y : DataW H × List MemPlace), w.cells? base (a.add (i * P.cellsOf e)) (P.cellsOf e) = some c ∧ elems[i]? = some y ∧ d.K w z c ∧ ((∀ n ∈ DataW.weights P e y.1, n ≤ reachBytes) → bd z) := by
      intro i hi
      have h1 := hel i hi
      rw [List.getElem?_eq_getElem (by omega), Option.bind_eq_some_iff] at h1
      obtain ⟨c, hc, hy⟩ := h1
      obtain ⟨z, hz, hbz⟩ := h hy
      exact ⟨z, c, _, hc, List.getElem?_eq_getElem (by omega), hz, hbz⟩
    obtain ⟨xs, hxl, hxs⟩ := list_of len each
    subst hxl
    refine ⟨xs, ⟨some a, cap, rfl, hl, rfl, by unfold maxLen at hm; omega, fun _ => ⟨a, rfl, fun j p hp => ?_⟩⟩, fun hn => ⟨fun z hz => ?_, ?_⟩⟩
    · obtain ⟨c, y, hc, _, hk, _⟩ := hxs j p hp
      obtain ⟨_, hcl, hcell⟩ := World.cells?_some hc
      refine ⟨c, by rw [hcl, hs], hk, fun i u hu => ?_⟩
      have hi : i < P.cellsOf e := by rw [← hcl]; exact (List.getElem?_eq_some_iff.1 hu).1
      have := hcell i hi
      rw [hu] at this
      rw [hs]
      rw [Addr.add_add] at this
      exact this
    · obtain ⟨j, hj⟩ := List.getElem?_of_mem hz
      obtain ⟨c, y, _, hy, _, hbz⟩ := hxs j z hj
      refine hbz fun m hm => hn m ?_
      simp only [DataW.weights, ht]
      refine List.mem_cons_of_mem _ (List.mem_append_left _ (weightsAll_mem (y := y.1) ?_ m hm))
      exact List.mem_map.2 ⟨y, List.mem_of_getElem? hy, rfl⟩
    · have h1 := hn ((elems.length + rest.length) * P.bytesOf e) (by simp [DataW.weights, ht])
      refine Nat.le_trans (Nat.mul_le_mul_right _ ?_) h1
      omega
/-- Fields that lie one behind the other, from cell o on. -/
def OpensL (P : Program) (fs : List Field) (o : Nat) {α : Type} (d : Kd α) (bd : α → Prop) : Prop :=
  ∀ {H : Type} {enc : TypeId × Value → H} {w : World} {base : Nat} {spare : Nat → Bool} {held : Bool} {n : Nat} {cs : List Value} (xs : List (DataW H × List MemPlace)), xs.length = fs.length →
    (∀ (i : Nat) (f : Field), fs[i]? = some f → DataW.trod enc P w base spare held n f.type ((cs.drop f.offset).take (P.cellsOf f.type)) = xs[i]?) → cs.length = o + (fs.map fun f => P.cellsOf f.type).sum →
    ∃ a : α, d.K w a (cs.drop o) ∧ ((∀ m ∈ DataW.weightsEach P (fs.map (·.type)) (xs.map (·.1)), m ≤ reachBytes) → bd a)
theorem opensL_one {f : Field} {o : Nat} (ho : f.offset = o) (h : Opens P f.type d bd) : OpensL P [f] o d bd := by
  intro H enc w base spare held n cs xs hl hx hc
  match xs, hl with
  | [y], _ =>
    have h1 := hx 0 f rfl
    rw [ho] at h1
    have h2 : (cs.drop o).take (P.cellsOf f.type) = cs.drop o := List.take_of_length_le (by simp at hc; simp; omega)
    rw [h2] at h1
    obtain ⟨a, h3, h4⟩ := h h1
    exact ⟨a, h3, fun hm => h4 (fun m hmm => hm m (by simpa [DataW.weightsEach] using hmm))⟩
theorem opensL_cons {f : Field} {fs : List Field} {o : Nat} {d' : Kd β} {bd2 : β → Prop} (ho : f.offset = o) (h : Opens P f.type d bd) (hr : OpensL P fs (o + P.cellsOf f.type) d' bd2) : OpensL P (f :: fs) o (Kd.pair d d') (fun x => bd x.1 ∧ bd2 x.2) := by
  intro H enc w base spare held n cs xs hl hx hc
  match xs, hl with
  | y :: ys, hl =>
    have h1 := hx 0 f rfl
    rw [ho] at h1
    obtain ⟨a, h3, h4⟩ := h h1
    obtain ⟨b, h5, h6⟩ := hr ys (by simpa using hl) (fun i g hg => hx (i + 1) g hg) (by rw [hc]; simp; omega)
    refine ⟨(a, b), ⟨_, _, ?_, h3, h5⟩, fun hm => ⟨h4 fun m hmm => hm m ?_, h6 fun m hmm => hm m ?_⟩⟩
    · rw [← List.drop_drop, List.take_append_drop]
    · simp only [List.map_cons, DataW.weightsEach]
      exact List.mem_append_left _ hmm
    · simp only [List.map_cons, DataW.weightsEach]
      exact List.mem_append_right _ hmm
theorem opens_struct {fs : Array Field} (ht : P.underlying t = some (.struct fs)) (hc : P.cellsOf t = (fs.toList.map fun f => P.cellsOf f.type).sum) (h : OpensL P fs.toList 0 d bd) : Opens P t d bd := by
  intro H enc w base spare held fuel cs x hx
  obtain ⟨xs, n, _, rfl, hl, hxl, hf⟩ := DataW.trod_struct ht hx
  obtain ⟨a, h1, h2⟩ := h xs (by simpa using hxl) (fun i f hi => hf i f (by simpa using hi)) (by rw [hl, hc]; omega)
  refine ⟨a, by simpa using h1, fun hn => h2 fun m hm => hn m ?_⟩
  simp only [DataW.weights, ht]
  exact hm
end
/-- An argument, opened. -/
theorem Opens.arg {P : Program} {t : TypeId} {α : Type} {d : Kd α} {bd : α → Prop} (h : Opens P t d bd) {H : Type} {enc : TypeId × Value → H} {W : World} {base : Nat} {spare : Nat → Bool} {held : Bool} {v : Value} {dt : DataW H} {ps : List MemPlace}
    (hd : DataW.Trod enc P W base spare held t v dt ps) : ∃ a : α, d.K W a v.cells.toList ∧ ((∀ n ∈ DataW.weights P t dt, n ≤ reachBytes) → bd a) := by
  obtain ⟨fuel, hx⟩ := hd
  exact h hx
theorem weights_each {H : Type} {P : Program} : ∀ {ts : List TypeId} {ds : List (DataW H)}, (DataW.weightsEach P ts ds).all (· ≤ reachBytes) = true → ∀ (j : Nat) (t : TypeId) (dt : DataW H), ts[j]? = some t → ds[j]? = some dt → ∀ n ∈ DataW.weights P t dt, n ≤ reachBytes := by
  intro ts
  induction ts with
  | nil => intro ds _ j t dt ht; simp at ht
  | cons u us ih =>
    intro ds hall j t dt ht hd n hn
    match ds, hd with
    | x :: r, hd =>
      simp only [DataW.weightsEach, List.all_append, Bool.and_eq_true] at hall
      cases j with
      | zero =>
        simp at ht hd
        subst ht hd
        simpa using List.all_eq_true.1 hall.1 n hn
      | succ j => exact ih hall.2 j t dt (by simpa using ht) (by simpa using hd) n hn
end Go.Proofs.Ytinhlaiogkmkfaa.G
end
section
/- The arguments of chapter 12's laws, opened. -/
namespace Go.Proofs.Ytinhlaiogkmkfaa.PA
open Go.RowKit Go.Proofs.Ytinhlaiogkmkfaa.G Go.Proofs.YtinhlaiogkmkfaaW.PrintWords
set_option linter.unusedVariables false
set_option linter.unusedSimpArgs false
set_option maxRecDepth 100000
theorem c3 : Try.prog.cellsOf 3 = 1 := by kernel_rfl
theorem c9 : Try.prog.cellsOf 9 = 1 := by kernel_rfl
theorem c22 : Try.prog.cellsOf 22 = 1 := by kernel_rfl
theorem c45 : Try.prog.cellsOf 45 = 2 := by kernel_rfl
theorem c56 : Try.prog.cellsOf 56 = 2 := by kernel_rfl
theorem bytes45 : Try.prog.bytesOf 45 = 24 := by kernel_rfl
theorem bytes56 : Try.prog.bytesOf 56 = 32 := by kernel_rfl
theorem o45 : Opens Try.prog 45 k45 (fun x => x.f1.size ≤ 140737488351232) :=
  Opens.mono (Opens.iso (opens_struct Try.underlying45 (by rw [c45]; simp [c3, c9, c22]) (opensL_cons rfl (opens_int Try.underlying3) (opensL_one (by simp [c3, c9, c22]) (opens_string Try.underlying9)))) (fun x : S45 => (x.f0, x.f1)) (fun p => ⟨p.1, p.2⟩) (fun _ => rfl)) fun _ h => h.2
theorem o22 : Opens Try.prog 22 (Kd.slice 45 k45) StepsFit :=
  Opens.mono (opens_slice Try.underlying22 o45 c45.symm 45) fun l h => ⟨by have := h.2; rw [bytes45] at this; omega, h.1⟩
theorem o56 : Opens Try.prog 56 k56 (fun x => x.f0.size ≤ 140737488351232 ∧ x.f1.size ≤ 140737488351232) :=
  Opens.iso (opens_struct Try.underlying56 (by rw [c56]; simp [c3, c9, c22]) (opensL_cons rfl (opens_string Try.underlying9) (opensL_one (by simp [c3, c9, c22]) (opens_string Try.underlying9)))) (fun x : S56 => (x.f0, x.f1)) (fun p => ⟨p.1, p.2⟩) (fun _ => rfl)
theorem o23 : Opens Try.prog 23 (Kd.slice 56 k56) VarsFit :=
  Opens.mono (opens_slice Try.underlying23 o56 c56.symm 56) fun l h => ⟨by have := h.2; rw [bytes56] at this; omega, h.1⟩
end Go.Proofs.Ytinhlaiogkmkfaa.PA
end
section
/- Fold's steps in closed form. -/
namespace Go.Proofs.Ytinhlaiogkmkfaa.PA
open Go.RowKit Go.Proofs.YtinhlaiogkmkfaaW.PrintWords Go.Proofs.YtinhlaiogkmkfaaW.PrintLast Go.Proofs.YtinhlaiogkmkfaaW.PrintMore
set_option linter.unusedVariables false
def isP (p : List S45) (k : Int) : Bool := match p with
  | [q] => q.f0 == k
  | _ => false
theorem is_eq (p : List S45) (k : Int) : rule_part_is.f p k = some (isP p k) := by
  unfold rule_part_is.f
  match p with
  | [] => rfl
  | [q] => rfl
  | q :: r :: t =>
    rw [if_neg (by simp only [List.length_cons]; omega)]
    rfl
def truthP (b : Bool) : List S45 := [⟨if b then 4 else 5, ⟨#[]⟩⟩]
theorem truth_eq (b : Bool) : rule_truth.f b = some (truthP b) := by cases b <;> rfl
def arityB (k : Int) : Nat := if k = 6 ∨ k = 11 then 1 else if k = 7 ∨ k = 8 ∨ k = 9 ∨ k = 10 ∨ k = 12 ∨ k = 13 then 2 else 0
theorem arity_eq (x : Int) {k : Nat} (hk : 1 ≤ k) : rule_arity.f k x = some (arityB x : Int) := by
  obtain ⟨k, rfl⟩ : ∃ m, k = m + 1 := ⟨k - 1, by omega⟩
  unfold rule_arity.f arityB
  by_cases c6 : x = 6
  · subst c6; rfl
  by_cases c11 : x = 11
  · subst c11; rfl
  rw [if_neg c6, if_neg (by omega), beq_eq_false_iff_ne.2 c11]
  unfold rule_arity.j0
  dsimp only
  rw [if_neg (by decide)]
  by_cases c7 : x = 7
  · rw [if_pos c7, if_pos (by omega)]; rfl
  rw [if_neg c7]
  by_cases c8 : x = 8
  · rw [if_pos c8, if_pos (by omega)]; rfl
  rw [if_neg c8]
  by_cases c9 : x = 9
  · rw [if_pos c9, if_pos (by omega)]; rfl
  rw [if_neg c9]
  by_cases c10 : x = 10
  · rw [if_pos c10, if_pos (by omega)]; rfl
  rw [if_neg c10]
  by_cases c12 : x = 12
  · rw [if_pos c12, if_pos (by omega)]; rfl
  rw [if_neg c12]
  by_cases c13 : x = 13
  · rw [if_pos c13, if_pos (by omega)]; rfl
  rw [if_neg c13, if_neg (by omega)]
  rfl
theorem over_loop (ps : List S66) (x : Int) (tx : ByteArray) (hl : ps.length ≤ 1000) : ∀ (d k i : Nat) (acc : List S45), ps.length - i = d → i ≤ ps.length → d < k → acc.length + ((ps.drop i).map fun q => q.f0.length).sum < 5864062014805 →
    rule_over.l0 k acc ps ps.length i x tx = some (acc ++ ((ps.drop i).map (·.f0)).flatten ++ [⟨x, tx⟩]) := by
  intro d
  induction d with
  | zero =>
    intro k i acc hd hi hk hs
    obtain ⟨k, rfl⟩ : ∃ m, k = m + 1 := ⟨k - 1, by omega⟩
    obtain rfl : i = ps.length := by omega
    unfold rule_over.l0
    rw [List.drop_length] at hs ⊢
    rw [if_neg (by omega), if_pos (by simpa using hs)]
    simp
  | succ d ih =>
    intro k i acc hd hi hk hs
    obtain ⟨k, rfl⟩ : ∃ m, k = m + 1 := ⟨k - 1, by omega⟩
    have hi' : i < ps.length := by omega
    have er : rd_T66 ps (i : Int) = ps[i] := by unfold rd_T66; simp [hi']
    unfold rule_over.l0
    rw [List.drop_eq_getElem_cons hi'] at hs ⊢
    simp only [List.map_cons, List.sum_cons] at hs
    rw [if_pos (by omega), if_pos (by omega), if_pos (by omega), er, if_pos (by omega), wrap_up hi' (by omega), ih k (i + 1) _ (by omega) (by omega) (by omega) (by rw [List.length_append]; omega)]
    rw [List.map_cons, List.flatten_cons, ← List.append_assoc acc]
theorem over_eq {ps : List S66} (x : Int) (tx : ByteArray) {k : Nat} (hl : ps.length ≤ 1000) (hk : ps.length < k) (hs : (ps.map fun q => q.f0.length).sum < 5864062014805) :
    rule_over.f k x tx ps = some ((ps.map (·.f0)).flatten ++ [⟨x, tx⟩]) := by
  unfold rule_over.f
  have := over_loop ps x tx hl ps.length k 0 [] (by omega) (by omega) hk (by simpa using hs)
  simpa using this
/-- What not, and, or make of parts. -/
def notP (x : Int) (tx : ByteArray) (p : List S45) : List S45 :=
  if isP p 4 || isP p 5 then truthP (isP p 5) else if (p.getLast?.map (·.f0)) = some 11 then p.dropLast else p ++ [⟨x, tx⟩]
def logicP (x : Int) (tx : ByteArray) (a b : List S45) : List S45 :=
  let w : Int := if x = 13 then 4 else 5
  let g : Int := if x = 13 then 5 else 4
  if isP a w || isP b w then [⟨w, ⟨#[]⟩⟩] else if isP a g then b else if isP b g then a else a ++ b ++ [⟨x, tx⟩]
theorem logic_eq (x : Int) (tx : ByteArray) {a b : List S45} {k : Nat} (hk : 5 ≤ k) (hs : a.length + b.length < 5864062014805) : rule_logic.f k x tx a b = some (logicP x tx a b) := by
  obtain ⟨k, rfl⟩ : ∃ m, k = m + 2 := ⟨k - 2, by omega⟩
  have ho := over_eq (ps := [⟨a⟩, ⟨b⟩]) x tx (k := k) (by simp) (by simp; omega) (by simpa using hs)
  have j1 : ∀ w g t, rule_logic.j1 (k + 1) w g t x tx a b = some (if t = true then [⟨w, ⟨#[]⟩⟩] else if isP a g then b else if isP b g then a else a ++ b ++ [⟨x, tx⟩]) := by
    intro w g t
    unfold rule_logic.j1
    dsimp only
    rw [is_eq, is_eq, ho]
    cases t <;> cases isP a g <;> cases isP b g <;> simp [rule_leaf.f]
  have j0 : ∀ w g, rule_logic.j0 (k + 2) w g x tx a b = some (if isP a w || isP b w then [⟨w, ⟨#[]⟩⟩] else if isP a g then b else if isP b g then a else a ++ b ++ [⟨x, tx⟩]) := by
    intro w g
    unfold rule_logic.j0
    dsimp only
    rw [is_eq, is_eq, Option.bind_some, Option.bind_some, j1, j1]
    cases isP a w <;> simp
  unfold rule_logic.f logicP
  by_cases c : x = 13
  · rw [if_pos c, if_pos c, if_pos c, j0]
  · rw [if_neg c, if_neg c, if_neg c, j0]
theorem not_eq (x : Int) (tx : ByteArray) {p : List S45} {k : Nat} (hk : 5 ≤ k) (hp : p ≠ []) (hs : p.length < 5864062014805) : rule_not.f k x tx p = some (notP x tx p) := by
  obtain ⟨k, rfl⟩ : ∃ m, k = m + 1 := ⟨k - 1, by omega⟩
  have ho := over_eq (ps := [⟨p⟩]) x tx (k := k) (by simp) (by simp; omega) (by simpa using hs)
  have hl : 1 ≤ p.length := List.length_pos_iff.2 hp
  have hw : wrap64 ((p.length : Int) - 1) = ((p.length - 1 : Nat) : Int) := by unfold wrap64; omega
  have hr : rule_part_root.f p = some ((p.getLast hp).f0, (p.getLast hp).f1) := by
    unfold rule_part_root.f
    rw [hw, if_pos (by omega), if_pos (by omega), rd45 (by omega)]
    simp [List.getLast_eq_getElem]
  have j0 : ∀ t, rule_not.j0 (k + 1) t x tx p = some (if t = true then truthP (isP p 5) else if (p.getLast?.map (·.f0)) = some 11 then p.dropLast else p ++ [⟨x, tx⟩]) := by
    intro t
    unfold rule_not.j0
    dsimp only
    rw [is_eq, Option.bind_some, truth_eq, Option.bind_some, hr, Option.bind_some, hw, ho, List.getLast?_eq_some_getLast hp, Option.map_some]
    cases t
    · rw [if_neg (show ¬ (false = true) by decide), if_neg (show ¬ (false = true) by decide)]
      dsimp only
      by_cases c : (p.getLast hp).f0 = 11
      · rw [if_pos c, if_pos (by omega), if_pos (by omega), if_pos (by rw [c]), Int.toNat_natCast, List.dropLast_eq_take]
      · rw [if_neg c, if_neg (by intro e; exact c (Option.some.inj e))]
        simp
    · rw [if_pos rfl, if_pos rfl]
  unfold rule_not.f notP
  rw [is_eq, Option.bind_some, is_eq, Option.bind_some, j0, j0]
  cases isP p 4 <;> simp
end Go.Proofs.Ytinhlaiogkmkfaa.PA
end
section
/- Fold's steps in closed form: names and texts. -/
namespace Go.Proofs.Ytinhlaiogkmkfaa.PA
open Go.RowKit Go.Proofs.YtinhlaiogkmkfaaW.PrintWords Go.Proofs.YtinhlaiogkmkfaaW.PrintLast Go.Proofs.YtinhlaiogkmkfaaW.PrintMore
set_option linter.unusedVariables false
theorem get_loop (l : List S56) (nm : ByteArray) (hl : l.length < 4398046511104) : ∀ (d k i : Nat), l.length - i = d → i ≤ l.length → d < k →
    vars_Get.l0 k nm l l.length i = some (G.getT (rule_say.vrs (l.drop i)) nm, G.getB (rule_say.vrs (l.drop i)) nm) := by
  intro d
  induction d with
  | zero =>
    intro k i hd hi hk
    obtain ⟨k, rfl⟩ : ∃ m, k = m + 1 := ⟨k - 1, by omega⟩
    obtain rfl : i = l.length := by omega
    unfold vars_Get.l0
    rw [if_neg (by omega), List.drop_length]
    rfl
  | succ d ih =>
    intro k i hd hi hk
    obtain ⟨k, rfl⟩ : ∃ m, k = m + 1 := ⟨k - 1, by omega⟩
    have hi' : i < l.length := by omega
    have er : rd_T56 l (i : Int) = l[i] := by unfold rd_T56; simp [hi']
    unfold vars_Get.l0
    rw [if_pos (by omega), if_pos (by omega), if_pos (by omega), er, List.drop_eq_getElem_cons hi']
    have eg : G.getV (rule_say.vrs (l[i] :: l.drop (i + 1))) nm = if l[i].f0.toList == nm.toList then some l[i].f1 else G.getV (rule_say.vrs (l.drop (i + 1))) nm := rfl
    unfold G.getT G.getB
    rw [eg]
    by_cases c : l[i].f0.toList = nm.toList
    · rw [if_pos c, if_pos (beq_iff_eq.2 c)]
      rfl
    · rw [if_neg c, if_neg (by simpa using c), wrap_up hi' (by omega)]
      exact ih k (i + 1) (by omega) (by omega) (by omega)
theorem get_eq {l : List S56} (nm : ByteArray) (hl : l.length < 4398046511104) {k : Nat} (hk : l.length < k) : vars_Get.f k l nm = some (G.getT (rule_say.vrs l) nm, G.getB (rule_say.vrs l) nm) := by
  unfold vars_Get.f
  exact get_loop l nm hl l.length k 0 (by omega) (by omega) hk
/-- What a step that names a variable, or has no parts, folds to. -/
def namedP (vs : List S56) (x : Int) (tx : ByteArray) : List S45 :=
  if x = 2 ∧ G.getB (rule_say.vrs vs) tx = true ∧ (G.getT (rule_say.vrs vs) tx).size ≤ 1024 then [⟨1, G.getT (rule_say.vrs vs) tx⟩]
  else if x = 3 ∧ G.getB (rule_say.vrs vs) tx = true then truthP true else [⟨x, tx⟩]
theorem named_eq {vs : List S56} (x : Int) (tx : ByteArray) (hl : vs.length < 4398046511104) {k : Nat} (hk : vs.length + 4 < k) : rule_named.f k x tx vs = some (namedP vs x tx) := by
  obtain ⟨k, rfl⟩ : ∃ m, k = m + 2 := ⟨k - 2, by omega⟩
  have j1 : ∀ b, rule_named.j1 (k + 1) b x tx = some (if b = true then truthP true else [⟨x, tx⟩]) := by
    intro b
    unfold rule_named.j1
    dsimp only
    cases b <;> rfl
  have j0 : ∀ v b t, rule_named.j0 (k + 2) v b t x tx = some (if t = true then [⟨1, v⟩] else if x = 3 ∧ b = true then truthP true else [⟨x, tx⟩]) := by
    intro v b t
    unfold rule_named.j0
    dsimp only
    rw [j1, j1]
    cases t
    · by_cases c : x = 3
      · cases b <;> simp [c]
      · simp [c]
    · rfl
  unfold rule_named.f namedP
  rw [get_eq tx hl (by omega), Option.bind_some]
  dsimp only
  rw [j0, j0]
  by_cases c2 : x = 2
  · rw [if_pos c2]
    cases hb : G.getB (rule_say.vrs vs) tx
    · simp
    · rw [if_pos rfl]
      by_cases c : (G.getT (rule_say.vrs vs) tx).size ≤ 1024
      · rw [decide_eq_true (by omega), if_pos rfl, if_pos ⟨c2, rfl, c⟩]
      · rw [decide_eq_false (by omega), if_neg (show ¬ (false = true) by decide), if_neg (show ¬ (x = 2 ∧ (true = true) ∧ (G.getT (rule_say.vrs vs) tx).size ≤ 1024) from fun h => c h.2.2)]
  · rw [if_neg c2, if_neg (show ¬ (false = true) by decide), if_neg (show ¬ (x = 2 ∧ G.getB (rule_say.vrs vs) tx = true ∧ (G.getT (rule_say.vrs vs) tx).size ≤ 1024) from fun h => c2 h.1)]
/-- Are two parts one and the same variable? -/
def sameVar : List S66 → Bool
  | [p, q] => isP p.f0 2 && isP q.f0 2 && (p.f0.map fun s => s.f1.toList) == (q.f0.map fun s => s.f1.toList)
  | _ => false
def textsP (x : Int) (tx : ByteArray) (ps : List S66) : List S45 :=
  if ps.all (fun p => isP p.f0 1) then truthP (sayB ((ps.map (·.f0)).flatten ++ [⟨x, tx⟩]) [])
  else if sameVar ps then truthP (x == 7) else (ps.map (·.f0)).flatten ++ [⟨x, tx⟩]
theorem isP_one {p : List S45} {k : Int} (h : isP p k = true) : ∃ tx, p = [⟨k, tx⟩] := by
  match p, h with
  | [q], h =>
    have e : q.f0 = k := by simpa [isP] using h
    exact ⟨q.f1, by rw [← e]⟩
theorem root_one (t : ByteArray) : rule_part_root.f [(⟨2, t⟩ : S45)] = some (2, t) := by
  have e : wrap64 (((1 : Nat) : Int) - 1) = 0 := by unfold wrap64; omega
  unfold rule_part_root.f
  rw [List.length_singleton, e]
  rfl
theorem texts_eq {ps : List S66} (x : Int) (tx : ByteArray) (hl : ps.length ≤ 2) {k : Nat} (hk : 20 ≤ k) (hs : (ps.map fun q => q.f0.length).sum < 5864062014805)
    (hsay : ps.all (fun p => isP p.f0 1) = true → rule_say.f ((ps.map (·.f0)).flatten ++ [⟨x, tx⟩]) [] = some (sayB ((ps.map (·.f0)).flatten ++ [⟨x, tx⟩]) [])) :
    rule_texts.f k x tx ps = some (textsP x tx ps) := by
  have j1 : ∀ m b, 4 ≤ m → rule_texts.j1 m ps b x tx = some (if b = true then truthP (x == 7) else (ps.map (·.f0)).flatten ++ [⟨x, tx⟩]) := by
    intro m b hm
    obtain ⟨m, rfl⟩ : ∃ n, m = n + 1 := ⟨m - 1, by omega⟩
    unfold rule_texts.j1
    dsimp only
    rw [truth_eq, over_eq x tx (by omega) (by omega) hs]
    cases b <;> rfl
  have fin : ∀ m b, 8 ≤ m → (b = ps.all (fun p => isP p.f0 1)) → rule_texts.l0 m ps b ps ps.length ps.length x tx = some (textsP x tx ps) := by
    intro m b hm hb
    obtain ⟨m, rfl⟩ : ∃ n, m = n + 1 := ⟨m - 1, by omega⟩
    unfold rule_texts.l0 textsP
    rw [if_neg (by omega), over_eq x tx (by omega) (by omega) hs, Option.bind_some, ← hb]
    by_cases hb1 : b = true
    · rw [if_pos hb1, if_pos hb1, hsay (hb.symm.trans hb1), Option.bind_some, truth_eq]
      rfl
    · rw [if_neg hb1, if_neg hb1]
      have jf := j1 m false (by omega)
      match ps, hl, jf, j1 with
      | [], _, jf, _ => exact jf
      | [p], _, jf, _ => exact jf
      | [p, q], _, jf, j1 =>
        have e0 : rd_T66 [p, q] 0 = p := rfl
        have e1 : rd_T66 [p, q] 1 = q := rfl
        rw [if_pos (by rfl), if_pos (by simp), e0, e1, is_eq, is_eq, Option.bind_some]
        by_cases cp : isP p.f0 2 = true
        · rw [if_pos cp, if_pos (by simp), Option.bind_some]
          by_cases cq : isP q.f0 2 = true
          · obtain ⟨t1, h1⟩ := isP_one cp
            obtain ⟨t2, h2⟩ := isP_one cq
            have r1 : rule_part_root.f p.f0 = some (2, t1) := by rw [h1]; exact root_one t1
            have r2 : rule_part_root.f q.f0 = some (2, t2) := by rw [h2]; exact root_one t2
            rw [if_pos cq, r1, r2, Option.bind_some, Option.bind_some, j1 m _ (by omega)]
            have es : sameVar [p, q] = (t1.toList == t2.toList) := by
              show (isP p.f0 2 && isP q.f0 2 && (p.f0.map fun s => s.f1.toList) == (q.f0.map fun s => s.f1.toList)) = _
              rw [cp, cq, h1, h2]
              simp
            rw [es]
            rfl
          · rw [if_neg cq, jf]
            have es : sameVar [p, q] = false := by show (isP p.f0 2 && isP q.f0 2 && (p.f0.map fun s => s.f1.toList) == (q.f0.map fun s => s.f1.toList)) = _; rw [Bool.eq_false_iff.2 cq]; simp
            rw [es]
        · rw [if_neg cp, jf]
          have es : sameVar [p, q] = false := by show (isP p.f0 2 && isP q.f0 2 && (p.f0.map fun s => s.f1.toList) == (q.f0.map fun s => s.f1.toList)) = _; rw [Bool.eq_false_iff.2 cp]; simp
          rw [es]
      | _ :: _ :: _ :: _, h, _, _ => simp at h
  have go : ∀ (d m i : Nat) (b : Bool), ps.length - i = d → i ≤ ps.length → d + 8 ≤ m → (b = (ps.take i).all (fun p => isP p.f0 1)) → rule_texts.l0 m ps b ps ps.length i x tx = some (textsP x tx ps) := by
    intro d
    induction d with
    | zero =>
      intro m i b hd hi hm hb
      obtain rfl : i = ps.length := by omega
      rw [List.take_length] at hb
      exact fin m b (by omega) hb
    | succ d ih =>
      intro m i b hd hi hm hb
      obtain ⟨m, rfl⟩ : ∃ n, m = n + 1 := ⟨m - 1, by omega⟩
      have hi' : i < ps.length := by omega
      have er : rd_T66 ps (i : Int) = ps[i] := by unfold rd_T66; simp [hi']
      unfold rule_texts.l0
      rw [if_pos (by omega), if_pos (by omega), if_pos (by omega), er, is_eq, Option.bind_some, wrap_up hi' (by omega)]
      have et : (ps.take (i + 1)).all (fun p => isP p.f0 1) = (b && isP ps[i].f0 1) := by
        rw [List.take_add_one, List.getElem?_eq_getElem hi', List.all_append, ← hb]
        simp
      cases b
      · rw [if_neg (by decide)]
        exact ih m (i + 1) false (by omega) (by omega) (by omega) (by rw [et]; rfl)
      · rw [if_pos rfl]
        exact ih m (i + 1) _ (by omega) (by omega) (by omega) (by rw [et]; rfl)
  unfold rule_texts.f
  exact go ps.length k 0 true (by omega) (by omega) (by omega) rfl
end Go.Proofs.Ytinhlaiogkmkfaa.PA
end
section
/- Fold whole, in closed form: one step over its parts. -/
namespace Go.Proofs.Ytinhlaiogkmkfaa.PA
open Go.RowKit Go.Proofs.YtinhlaiogkmkfaaW.PrintWords Go.Proofs.YtinhlaiogkmkfaaW.PrintLast Go.Proofs.YtinhlaiogkmkfaaW.PrintMore
set_option linter.unusedVariables false
def foldXp (vs : List S56) (x : S45) (l : List (List S45)) : List S45 :=
  if x.f0 = 11 then (match l with | [p] => notP x.f0 x.f1 p | _ => [])
  else if x.f0 = 12 ∨ x.f0 = 13 then (match l with | [p, q] => logicP x.f0 x.f1 p q | _ => [])
  else if x.f0 = 6 ∨ x.f0 = 7 ∨ x.f0 = 8 ∨ x.f0 = 9 ∨ x.f0 = 10 then textsP x.f0 x.f1 (l.map S66.mk)
  else namedP vs x.f0 x.f1
def foldSp (vs : List S56) (x : S45) (st : List (List S45)) : List (List S45) := st.take (st.length - arityB x.f0) ++ [foldXp vs x (st.drop (st.length - arityB x.f0))]
def foldRp (vs : List S56) : List S45 → List (List S45) → List (List S45)
  | [], st => st
  | x :: r, st => foldRp vs r (foldSp vs x st)
theorem say_of {l : List S45} {vs : List S56} {b : Bool} (hf : rule_say.fit l vs = true) (h : G.sayV (rule_say.vrs vs) (expr_Check.prs l) = some b) : rule_say.f l vs = some (sayB l vs) := by
  have e : rule_say.f l vs = some b := by unfold rule_say.f; rw [if_pos hf]; exact h
  unfold sayB
  rw [e]
  rfl
theorem fit_of {l : List S45} {vs : List S56} (hl : l.length ≤ 9000) (hs : ∀ x ∈ l, x.f1.size ≤ 140737488351232) (hv : VarsFit vs) : rule_say.fit l vs = true := by
  unfold rule_say.fit
  rw [Bool.and_eq_true, Bool.and_eq_true, Bool.and_eq_true, decide_eq_true_eq, decide_eq_true_eq, List.all_eq_true, List.all_eq_true]
  exact ⟨⟨hl, fun x hx => decide_eq_true (by have := hs x hx; omega)⟩, by have := hv.len; omega, fun x hx => decide_eq_true (by have := (hv.each x hx).2; omega)⟩
theorem nil_fit : VarsFit [] := ⟨by simp, fun x hx => by cases hx⟩
theorem say_texts {ps : List S66} (x : Int) (tx : ByteArray) (hx : x = 6 ∨ x = 7 ∨ x = 8 ∨ x = 9 ∨ x = 10) (hn : ps.length = arityB x) (ht : tx.size ≤ 140737488351232) (hs : ∀ p ∈ ps, ∀ y ∈ p.f0, y.f1.size ≤ 140737488351232)
    (ha : ps.all (fun p => isP p.f0 1) = true) : rule_say.f ((ps.map (·.f0)).flatten ++ [⟨x, tx⟩]) [] = some (sayB ((ps.map (·.f0)).flatten ++ [⟨x, tx⟩]) []) := by
  by_cases h6 : x = 6
  · subst h6
    match ps, hn, ha, hs with
    | [p], _, ha, hs =>
      obtain ⟨s, hp⟩ := isP_one (p := p.f0) (k := 1) (by simpa using ha)
      have e : ((([p] : List S66).map (·.f0)).flatten ++ [(⟨6, tx⟩ : S45)]) = [⟨1, s⟩, ⟨6, tx⟩] := by simp [hp]
      have h1 := hs p (by simp) ⟨1, s⟩ (by rw [hp]; simp)
      rw [e]
      refine say_of (b := !s.toList.isEmpty) (fit_of (by simp) (fun y hy => ?_) nil_fit) rfl
      simp at hy
      rcases hy with rfl | rfl
      · exact h1
      · exact ht
  · have ar : arityB x = 2 := by unfold arityB; rw [if_neg (by omega), if_pos (by omega)]
    rw [ar] at hn
    match ps, hn, ha, hs with
    | [p, q], _, ha, hs =>
      simp only [List.all_cons, List.all_nil, Bool.and_true, Bool.and_eq_true] at ha
      obtain ⟨s, hp⟩ := isP_one (p := p.f0) (k := 1) ha.1
      obtain ⟨z, hq⟩ := isP_one (p := q.f0) (k := 1) ha.2
      have e : ((([p, q] : List S66).map (·.f0)).flatten ++ [(⟨x, tx⟩ : S45)]) = [⟨1, s⟩, ⟨1, z⟩, ⟨x, tx⟩] := by simp [hp, hq]
      have h1 := hs p (by simp) ⟨1, s⟩ (by rw [hp]; simp)
      have h2 := hs q (by simp) ⟨1, z⟩ (by rw [hq]; simp)
      rw [e]
      have hf : rule_say.fit [(⟨1, s⟩ : S45), ⟨1, z⟩, ⟨x, tx⟩] [] = true := fit_of (by simp) (fun y hy => by
        simp at hy
        rcases hy with rfl | rfl | rfl
        · exact h1
        · exact h2
        · exact ht) nil_fit
      rcases hx with rfl | rfl | rfl | rfl | rfl
      · exact absurd rfl h6
      · exact say_of (b := s.toList == z.toList) hf rfl
      · exact say_of (b := !(s.toList == z.toList)) hf rfl
      · exact say_of (b := (G.matchRes z s).1) hf rfl
      · exact say_of (b := !(G.matchRes z s).1) hf rfl
theorem foldX_eq {vs : List S56} (x : S45) {l : List (List S45)} {k : Nat} (hv : vs.length < 4398046511104) (hk : vs.length + 30 < k) (hn : l.length = arityB x.f0) (ht : x.f1.size ≤ 140737488351232) (hs : ∀ p ∈ l, ∀ y ∈ p, y.f1.size ≤ 140737488351232)
    (hp : ∀ p ∈ l, p ≠ []) (hl : (l.map (·.length)).sum < 5864062014805) : foldX k vs x l = some (foldXp vs x l) := by
  unfold foldX foldXp
  by_cases c11 : x.f0 = 11
  · rw [if_pos c11, if_pos c11]
    have ar : arityB x.f0 = 1 := by rw [c11]; rfl
    rw [ar] at hn
    match l, hn, hp, hl with
    | [p], _, hp, hl =>
      simp at hl
      exact not_eq _ _ (by omega) (hp p (by simp)) hl
  rw [if_neg c11, if_neg c11]
  by_cases c12 : x.f0 = 12 ∨ x.f0 = 13
  · rw [if_pos c12, if_pos c12]
    have ar : arityB x.f0 = 2 := by rcases c12 with c | c <;> rw [c] <;> rfl
    rw [ar] at hn
    match l, hn, hp, hl with
    | [p, q], _, hp, hl =>
      simp at hl
      exact logic_eq _ _ (by omega) hl
  rw [if_neg c12, if_neg c12]
  by_cases c6 : x.f0 = 6 ∨ x.f0 = 7 ∨ x.f0 = 8 ∨ x.f0 = 9 ∨ x.f0 = 10
  · rw [if_pos c6, if_pos c6]
    have a2 : arityB x.f0 ≤ 2 := by rcases c6 with c | c | c | c | c <;> rw [c] <;> decide
    refine texts_eq _ _ (by rw [List.length_map]; omega) (by omega) (by simpa [List.map_map, Function.comp_def] using hl) (fun ha => ?_)
    refine say_texts _ _ c6 (by rw [List.length_map]; exact hn) ht (fun p hpm y hy => ?_) ha
    obtain ⟨q, hq, rfl⟩ := List.mem_map.1 hpm
    exact hs q hq y hy
  · rw [if_neg c6, if_neg c6]
    exact named_eq _ _ hv (by omega)
end Go.Proofs.Ytinhlaiogkmkfaa.PA
end
section
/- Folded parts are normal: folded again they are themselves. -/
namespace Go.Proofs.Ytinhlaiogkmkfaa.PA
open Go.RowKit Go.Proofs.YtinhlaiogkmkfaaW.PrintWords Go.Proofs.YtinhlaiogkmkfaaW.PrintLast Go.Proofs.YtinhlaiogkmkfaaW.PrintMore
set_option linter.unusedVariables false
inductive Nf (vs : List S56) : List S45 → Prop where
  | leaf (x : S45) : arityB x.f0 = 0 → foldXp vs x [] = [x] → Nf vs [x]
  | un (x : S45) (p : List S45) : Nf vs p → arityB x.f0 = 1 → foldXp vs x [p] = p ++ [x] → Nf vs (p ++ [x])
  | bin (x : S45) (a b : List S45) : Nf vs a → Nf vs b → arityB x.f0 = 2 → foldXp vs x [a, b] = a ++ b ++ [x] → Nf vs (a ++ b ++ [x])
theorem foldSp_on (vs : List S56) (x : S45) (st l : List (List S45)) (h : l.length = arityB x.f0) : foldSp vs x (st ++ l) = st ++ [foldXp vs x l] := by
  unfold foldSp
  rw [List.length_append, ← h, Nat.add_sub_cancel, List.take_left, List.drop_left]
theorem Nf.ne {vs : List S56} {p : List S45} (h : Nf vs p) : p ≠ [] := by
  cases h <;> simp
theorem arity_cases (x : Int) : (arityB x = 0 ∧ x ≠ 11 ∧ ¬ (x = 12 ∨ x = 13) ∧ ¬ (x = 6 ∨ x = 7 ∨ x = 8 ∨ x = 9 ∨ x = 10)) ∨ (arityB x = 1 ∧ (x = 6 ∨ x = 11)) ∨ (arityB x = 2 ∧ (x = 7 ∨ x = 8 ∨ x = 9 ∨ x = 10 ∨ x = 12 ∨ x = 13)) := by
  unfold arityB
  by_cases c1 : x = 6 ∨ x = 11
  · rw [if_pos c1]; exact .inr (.inl ⟨rfl, c1⟩)
  · rw [if_neg c1]
    by_cases c2 : x = 7 ∨ x = 8 ∨ x = 9 ∨ x = 10 ∨ x = 12 ∨ x = 13
    · rw [if_pos c2]; exact .inr (.inr ⟨rfl, c2⟩)
    · rw [if_neg c2]; exact .inl ⟨rfl, by omega, by omega, by omega⟩
theorem foldXp_named (vs : List S56) (x : S45) (l : List (List S45)) (h : arityB x.f0 = 0) : foldXp vs x l = namedP vs x.f0 x.f1 := by
  rcases arity_cases x.f0 with ⟨_, a, b, c⟩ | ⟨a, _⟩ | ⟨a, _⟩
  · unfold foldXp
    rw [if_neg a, if_neg b, if_neg c]
  · omega
  · omega
theorem Nf.plain (vs : List S56) (k : Int) (tx : ByteArray) (ha : arityB k = 0) (h2 : k ≠ 2) (h3 : k ≠ 3) : Nf vs [⟨k, tx⟩] :=
  .leaf ⟨k, tx⟩ ha (by rw [foldXp_named vs ⟨k, tx⟩ [] ha]; unfold namedP; rw [if_neg (fun h => h2 h.1), if_neg (fun h => h3 h.1)])
theorem Nf.truth (vs : List S56) (b : Bool) : Nf vs (truthP b) := by
  cases b
  · exact Nf.plain vs 5 _ rfl (by decide) (by decide)
  · exact Nf.plain vs 4 _ rfl (by decide) (by decide)
theorem Nf.named (vs : List S56) (x : S45) (ha : arityB x.f0 = 0) : Nf vs (namedP vs x.f0 x.f1) := by
  by_cases c : x.f0 = 2 ∧ G.getB (rule_say.vrs vs) x.f1 = true ∧ (G.getT (rule_say.vrs vs) x.f1).size ≤ 1024
  · unfold namedP
    rw [if_pos c]
    exact Nf.plain vs 1 _ rfl (by decide) (by decide)
  · by_cases d : x.f0 = 3 ∧ G.getB (rule_say.vrs vs) x.f1 = true
    · unfold namedP
      rw [if_neg c, if_pos d]
      exact Nf.truth vs true
    · have e : namedP vs x.f0 x.f1 = [x] := by unfold namedP; rw [if_neg c, if_neg d]
      rw [e]
      exact .leaf x ha (by rw [foldXp_named vs x [] ha, e])
/-- What ends in a not is the not of a normal part. -/
theorem Nf.unnot {vs : List S56} {p : List S45} (h : Nf vs p) (hl : (p.getLast?.map (·.f0)) = some 11) : ∃ q tx, p = q ++ [⟨11, tx⟩] ∧ Nf vs q := by
  cases h with
  | leaf x ha hf =>
    have e : x.f0 = 11 := by simpa using hl
    rw [e] at ha
    cases ha
  | un x q hq ha hf =>
    have e : x.f0 = 11 := by simpa using hl
    exact ⟨q, x.f1, by rw [← e], hq⟩
  | bin x a b _ _ ha hf =>
    have e : x.f0 = 11 := by simpa using hl
    rw [e] at ha
    cases ha
theorem Nf.step {vs : List S56} (x : S45) {l : List (List S45)} (hn : l.length = arityB x.f0) (hl : ∀ p ∈ l, Nf vs p) : Nf vs (foldXp vs x l) := by
  rcases arity_cases x.f0 with ⟨ar, _⟩ | ⟨ar, c⟩ | ⟨ar, c⟩
  · rw [foldXp_named vs x l ar]
    exact Nf.named vs x ar
  · rw [ar] at hn
    match l, hn, hl with
    | [p], _, hl =>
      have np := hl p (by simp)
      rcases c with c | c
      · have e : foldXp vs x [p] = textsP x.f0 x.f1 [⟨p⟩] := by unfold foldXp; rw [if_neg (by omega), if_neg (by omega), if_pos (by omega)]; rfl
        by_cases h1 : ([⟨p⟩] : List S66).all (fun p => isP p.f0 1) = true
        · rw [e]; unfold textsP; rw [if_pos h1]; exact Nf.truth vs _
        · have e2 : textsP x.f0 x.f1 [⟨p⟩] = p ++ [x] := by
            unfold textsP
            rw [if_neg h1, if_neg (show ¬ (sameVar [⟨p⟩] = true) from (by decide : ¬ (false = true)))]
            simp
          rw [e, e2]
          exact .un x p np ar (e.trans e2)
      · have e : foldXp vs x [p] = notP x.f0 x.f1 p := by unfold foldXp; rw [if_pos c]
        by_cases h1 : (isP p 4 || isP p 5) = true
        · rw [e]; unfold notP; rw [if_pos h1]; exact Nf.truth vs _
        · by_cases h2 : (p.getLast?.map (·.f0)) = some 11
          · rw [e]; unfold notP; rw [if_neg h1, if_pos h2]
            obtain ⟨q, tx, rfl, hq⟩ := np.unnot h2
            simpa using hq
          · have e2 : notP x.f0 x.f1 p = p ++ [x] := by unfold notP; rw [if_neg h1, if_neg h2]
            rw [e, e2]
            exact .un x p np ar (e.trans e2)
  · rw [ar] at hn
    match l, hn, hl with
    | [a, b], _, hl =>
      have na := hl a (by simp)
      have nb := hl b (by simp)
      by_cases c12 : x.f0 = 12 ∨ x.f0 = 13
      · have e : foldXp vs x [a, b] = logicP x.f0 x.f1 a b := by unfold foldXp; rw [if_neg (by omega), if_pos c12]
        have w : ∀ z : Int, z = 4 ∨ z = 5 → Nf vs [⟨z, ⟨#[]⟩⟩] := by
          rintro z (rfl | rfl)
          · exact Nf.truth vs true
          · exact Nf.truth vs false
        have hw : (if x.f0 = 13 then (4 : Int) else 5) = 4 ∨ (if x.f0 = 13 then (4 : Int) else 5) = 5 := by
          by_cases c : x.f0 = 13
          · rw [if_pos c]; exact .inl rfl
          · rw [if_neg c]; exact .inr rfl
        by_cases h1 : (isP a (if x.f0 = 13 then 4 else 5) || isP b (if x.f0 = 13 then 4 else 5)) = true
        · rw [e]; unfold logicP; dsimp only; rw [if_pos h1]; exact w _ hw
        · by_cases h2 : isP a (if x.f0 = 13 then 5 else 4) = true
          · rw [e]; unfold logicP; dsimp only; rw [if_neg h1, if_pos h2]; exact nb
          · by_cases h3 : isP b (if x.f0 = 13 then 5 else 4) = true
            · rw [e]; unfold logicP; dsimp only; rw [if_neg h1, if_neg h2, if_pos h3]; exact na
            · have e2 : logicP x.f0 x.f1 a b = a ++ b ++ [x] := by unfold logicP; dsimp only; rw [if_neg h1, if_neg h2, if_neg h3]
              rw [e, e2]
              exact .bin x a b na nb ar (e.trans e2)
      · have e : foldXp vs x [a, b] = textsP x.f0 x.f1 [⟨a⟩, ⟨b⟩] := by unfold foldXp; rw [if_neg (by omega), if_neg c12, if_pos (by omega)]; rfl
        by_cases h1 : ([⟨a⟩, ⟨b⟩] : List S66).all (fun p => isP p.f0 1) = true
        · rw [e]; unfold textsP; rw [if_pos h1]; exact Nf.truth vs _
        · by_cases h2 : sameVar [⟨a⟩, ⟨b⟩] = true
          · rw [e]; unfold textsP; rw [if_neg h1, if_pos h2]; exact Nf.truth vs _
          · have e2 : textsP x.f0 x.f1 [⟨a⟩, ⟨b⟩] = a ++ b ++ [x] := by unfold textsP; rw [if_neg h1, if_neg h2]; simp
            rw [e, e2]
            exact .bin x a b na nb ar (e.trans e2)
end Go.Proofs.Ytinhlaiogkmkfaa.PA
end
section
/- RuleLogic's plain law: what is run on a stack leaves what lies below as it is; and, or, not, and the comparisons of two texts. -/
namespace Go.Proofs.Ytinhlaiogkmkfaa.G
open Go.RowKit
set_option linter.unusedVariables false
theorem mt_nil : mt.toList = [] := by decide +kernel
theorem popC_frame {st0 st s l : List Prt} {n : Nat} {t : Bool} (h : popC st n t = some (s, l)) : popC (st0 ++ st) n t = some (st0 ++ s, l) := by
  obtain ⟨rfl, h1, h2⟩ := popC_parts h
  rw [← List.append_assoc]
  exact popC_some h1 h2
theorem stepC_frame {st0 st st' : List Prt} {k : Int} {tx : ByteArray} (h : stepC st k tx = some st') : stepC (st0 ++ st) k tx = some (st0 ++ st') := by
  have pop : ∀ {m : Nat} {t : Bool} (ok : List Prt → Bool), (match popC st m t with | some (s, l) => if ok l && tx.toList.isEmpty then some (s ++ [tru]) else none | none => none) = some st' →
      (match popC (st0 ++ st) m t with | some (s, l) => if ok l && tx.toList.isEmpty then some (s ++ [tru]) else none | none => none) = some (st0 ++ st') := by
    intro m t ok e
    split at e
    · rename_i s l hp
      rw [popC_frame hp]
      split at e
      · rename_i h1
        injection e with e
        subst e
        dsimp only
        rw [if_pos h1, List.append_assoc]
      · cases e
    · cases e
  have lift : ∀ {b : Bool} {q : Prt}, (if b then some (st ++ [q]) else none) = some st' → (if b then some (st0 ++ st ++ [q]) else none) = some (st0 ++ st') := by
    intro b q e
    split at e
    · rename_i h1
      injection e with e
      subst e
      rw [if_pos h1, List.append_assoc]
    · cases e
  unfold stepC at h ⊢
  simp only [] at h ⊢
  by_cases c1 : k = 1
  · rw [if_pos c1] at h ⊢
    split at h
    · rename_i h1
      injection h with h
      subst h
      rw [if_pos h1, List.append_assoc]
    · cases h
  rw [if_neg c1] at h ⊢
  by_cases c2 : k = 2
  · rw [if_pos c2] at h ⊢; exact lift h
  rw [if_neg c2] at h ⊢
  by_cases c3 : k = 3
  · rw [if_pos c3] at h ⊢; exact lift h
  rw [if_neg c3] at h ⊢
  by_cases c4 : k = 4 ∨ k = 5
  · rw [if_pos c4] at h ⊢; exact lift h
  rw [if_neg c4] at h ⊢
  by_cases c5 : k = 6
  · rw [if_pos c5] at h ⊢; exact pop (fun _ => true) h
  rw [if_neg c5] at h ⊢
  by_cases c6 : k = 7 ∨ k = 8
  · rw [if_pos c6] at h ⊢; exact pop (fun _ => true) h
  rw [if_neg c6] at h ⊢
  by_cases c7 : k = 9 ∨ k = 10
  · rw [if_pos c7] at h ⊢; exact pop (fun l => match l[1]? with | some q => q.lit && (checkRes q.text).2 == 0 | none => false) h
  rw [if_neg c7] at h ⊢
  by_cases c8 : k = 11
  · rw [if_pos c8] at h ⊢; exact pop (fun _ => true) h
  rw [if_neg c8] at h ⊢
  by_cases c9 : k = 12 ∨ k = 13
  · rw [if_pos c9] at h ⊢; exact pop (fun _ => true) h
  rw [if_neg c9] at h
  cases h
theorem lay1_frame {st0 st st' : List Vl} {f : Vl → Bool} (h : lay1 st f = some st') : lay1 (st0 ++ st) f = some (st0 ++ st') := by
  obtain ⟨s, a, rfl, rfl⟩ := lay1_some h
  unfold lay1
  rw [← List.append_assoc, pop1_snoc, Option.map_some, List.append_assoc]
theorem lay2_frame {st0 st st' : List Vl} {f : Vl → Vl → Bool} (h : lay2 st f = some st') : lay2 (st0 ++ st) f = some (st0 ++ st') := by
  obtain ⟨s, a, b, rfl, rfl⟩ := lay2_some h
  unfold lay2
  rw [← List.append_assoc, ← List.append_assoc, pop1_snoc, Option.bind_some]
  show Option.map _ (pop1 (st0 ++ s ++ [a])) = _
  rw [pop1_snoc, Option.map_some, List.append_assoc]
theorem stepV_frame {vs : List (ByteArray × ByteArray)} {st0 st st' : List Vl} {k : Int} {tx : ByteArray} (h : stepV vs k tx st = some st') : stepV vs k tx (st0 ++ st) = some (st0 ++ st') := by
  have push : ∀ {v : Vl}, some (st ++ [v]) = some st' → some (st0 ++ st ++ [v]) = some (st0 ++ st') := by
    intro v e
    injection e with e
    subst e
    rw [List.append_assoc]
  unfold stepV at h ⊢
  by_cases c1 : k = 1
  · rw [if_pos c1] at h ⊢; exact push h
  rw [if_neg c1] at h ⊢
  by_cases c2 : k = 2
  · rw [if_pos c2] at h ⊢; exact push h
  rw [if_neg c2] at h ⊢
  by_cases c3 : k = 3
  · rw [if_pos c3] at h ⊢; exact push h
  rw [if_neg c3] at h ⊢
  by_cases c4 : k = 4
  · rw [if_pos c4] at h ⊢; exact push h
  rw [if_neg c4] at h ⊢
  by_cases c5 : k = 5
  · rw [if_pos c5] at h ⊢; exact push h
  rw [if_neg c5] at h ⊢
  by_cases c6 : k = 6
  · rw [if_pos c6] at h ⊢; exact lay1_frame h
  rw [if_neg c6] at h ⊢
  by_cases c7 : k = 7
  · rw [if_pos c7] at h ⊢; exact lay2_frame h
  rw [if_neg c7] at h ⊢
  by_cases c8 : k = 8
  · rw [if_pos c8] at h ⊢; exact lay2_frame h
  rw [if_neg c8] at h ⊢
  by_cases c9 : k = 9
  · rw [if_pos c9] at h ⊢; exact lay2_frame h
  rw [if_neg c9] at h ⊢
  by_cases c10 : k = 10
  · rw [if_pos c10] at h ⊢; exact lay2_frame h
  rw [if_neg c10] at h ⊢
  by_cases c11 : k = 11
  · rw [if_pos c11] at h ⊢; exact lay1_frame h
  rw [if_neg c11] at h ⊢
  by_cases c12 : k = 12
  · rw [if_pos c12] at h ⊢; exact lay2_frame h
  rw [if_neg c12] at h ⊢
  by_cases c13 : k = 13
  · rw [if_pos c13] at h ⊢; exact lay2_frame h
  rw [if_neg c13] at h
  cases h
theorem runC_frame (st0 : List Prt) : ∀ (t : List (Int × ByteArray)) {st st' : List Prt}, runC t st = some st' → runC t (st0 ++ st) = some (st0 ++ st') := by
  intro t
  induction t with
  | nil => intro st st' h; injection h with h; subst h; rfl
  | cons q r ih =>
    intro st st' h
    unfold runC at h ⊢
    rw [Option.bind_eq_some_iff] at h
    obtain ⟨s1, h1, h2⟩ := h
    rw [stepC_frame h1]
    exact ih h2
theorem runV_frame (vs : List (ByteArray × ByteArray)) (st0 : List Vl) : ∀ (t : List (Int × ByteArray)) {st st' : List Vl}, runV vs t st = some st' → runV vs t (st0 ++ st) = some (st0 ++ st') := by
  intro t
  induction t with
  | nil => intro st st' h; injection h with h; subst h; rfl
  | cons q r ih =>
    intro st st' h
    unfold runV at h ⊢
    rw [Option.bind_eq_some_iff] at h
    obtain ⟨s1, h1, h2⟩ := h
    rw [stepV_frame h1]
    exact ih h2
theorem runC_app : ∀ (a b : List (Int × ByteArray)) (st : List Prt), runC (a ++ b) st = (runC a st).bind (runC b) := by
  intro a
  induction a with
  | nil => intro b st; rfl
  | cons q r ih =>
    intro b st
    show (stepC st q.1 q.2).bind (runC (r ++ b)) = ((stepC st q.1 q.2).bind (runC r)).bind (runC b)
    cases stepC st q.1 q.2 with
    | none => rfl
    | some s => exact ih b s
theorem runV_app (vs : List (ByteArray × ByteArray)) : ∀ (a b : List (Int × ByteArray)) (st : List Vl), runV vs (a ++ b) st = (runV vs a st).bind (runV vs b) := by
  intro a
  induction a with
  | nil => intro b st; rfl
  | cons q r ih =>
    intro b st
    show (stepV vs q.1 q.2 st).bind (runV vs (r ++ b)) = ((stepV vs q.1 q.2 st).bind (runV vs r)).bind (runV vs b)
    cases stepV vs q.1 q.2 st with
    | none => rfl
    | some s => exact ih b s
/-- A checked expression leaves one truth. -/
theorem checkB_run {t : List (Int × ByteArray)} (h : checkB t = true) : ∃ q, runC t [] = some [q] ∧ q.truth = true := by
  unfold checkB at h
  rw [Bool.and_eq_true] at h
  cases hr : runC t [] with
  | none => rw [hr] at h; cases h.2
  | some st =>
    rw [hr] at h
    match st, h.2 with
    | [q], h2 => exact ⟨q, rfl, h2⟩
end Go.Proofs.Ytinhlaiogkmkfaa.G
end
section
/- RuleLogic's walk: printed by a program of this session over the kit's print, cut down by gen_lg.py. Not trusted: Lean checks it. -/
namespace Go.Proofs.Ytinhlaiogkmkfaa.PA
open Go.RowKit Go.Proofs.YtinhlaiogkmkfaaW.PrintWords Go.Proofs.YtinhlaiogkmkfaaW.PrintLast Go.Proofs.YtinhlaiogkmkfaaW.PrintMore
attribute [local go_sem] max2_int min2_int max_two min_two max_three min_three max_four min_four
set_option linter.unusedVariables false
set_option linter.unusedSimpArgs false
attribute [local go_sem high] eqA45
/-! ### shuttlelaw12_RuleLogic: function 7 -/
def shuttlelaw12_RuleLogic.j0 : Nat → List (S45) → List (S45) → List (S56) → ByteArray → ByteArray → Bool → Bool → Bool → Option (Bool)
  | 0, _, _, _, _, _, _, _, _ => none
  | k + 1, x0, x1, x2, x3, x4, x11, x13, x60 => if x60 = true then ((shuttlelaw12_awake.f k).bind fun t273 => (some t273)) else ((shuttlelaw0_CopySteps.f x0).bind fun t274 => (if t274.length + x1.length < 5864062014805 then ((some (t274 ++ x1 : List (S45))).bind fun y277 => ((shuttlelaw0_CopySteps.f y277).bind fun t280 => (if t280.length < 5864062014805 then ((shuttlelaw0_CopyVars.f x2).bind fun t286 => ((rule_Eval.f (t280 ++ [(⟨12, (⟨#[]⟩ : ByteArray)⟩ : S45)]) t286).bind fun bt289 => ((shuttlelaw0_CopySteps.f y277).bind fun t291 => (if t291.length < 5864062014805 then ((shuttlelaw0_CopyVars.f x2).bind fun t297 => ((rule_Eval.f (t291 ++ [(⟨13, (⟨#[]⟩ : ByteArray)⟩ : S45)]) t297).bind fun bt300 => ((shuttlelaw0_CopySteps.f x0).bind fun t302 => (if t302.length < 5864062014805 then ((shuttlelaw0_CopyVars.f x2).bind fun t308 => ((rule_Eval.f (t302 ++ [(⟨11, (⟨#[]⟩ : ByteArray)⟩ : S45)]) t308).bind fun bt311 => ((some (([(⟨1, x3⟩ : S45), (⟨1, x4⟩ : S45)] : List (S45)) : List (S45))).bind fun y313 => ((shuttlelaw0_CopySteps.f y313).bind fun t316 => (if t316.length < 5864062014805 then ((rule_Eval.f (t316 ++ [(⟨7, (⟨#[]⟩ : ByteArray)⟩ : S45)]) ([] : List (S56))).bind fun bt322 => ((shuttlelaw0_CopySteps.f y313).bind fun t324 => (if t324.length < 5864062014805 then ((rule_Eval.f (t324 ++ [(⟨8, (⟨#[]⟩ : ByteArray)⟩ : S45)]) ([] : List (S56))).bind fun bt330 => ((shuttlelaw0_CopySteps.f y313).bind fun t332 => (if t332.length < 5864062014805 then ((rule_Eval.f (t332 ++ [(⟨9, (⟨#[]⟩ : ByteArray)⟩ : S45)]) ([] : List (S56))).bind fun bt338 => ((shuttlelaw0_CopySteps.f y313).bind fun t340 => (if t340.length < 5864062014805 then ((rule_Eval.f (t340 ++ [(⟨10, (⟨#[]⟩ : ByteArray)⟩ : S45)]) ([] : List (S56))).bind fun bt346 => (if bt289.2 = 0 then (if bt300.2 = 0 then (if bt311.2 = 0 then (if x11 = true then (if (bt289.1 != x13) = true then (some false) else (if (bt300.1 != true) = true then (some false) else (if (bt311.1 == x11) = true then (some false) else (if bt338.2 = bt346.2 then (if bt338.2 = 0 then (if (bt338.1 == bt346.1) = true then (some false) else (if (x3.size : Int) > 1024 then ((shuttlelaw12_awake.f k).bind fun t348 => (some t348)) else (if (x4.size : Int) > 1024 then ((shuttlelaw12_awake.f k).bind fun t349 => (some t349)) else (if (bt322.1 == (x3.toList == x4.toList)) = true then (if (bt330.1 == (x3.toList != x4.toList)) = true then ((shuttlelaw12_awake.f k).bind fun t350 => (some t350)) else (some false)) else (some false))))) else (if (x3.size : Int) > 1024 then ((shuttlelaw12_awake.f k).bind fun t351 => (some t351)) else (if (x4.size : Int) > 1024 then ((shuttlelaw12_awake.f k).bind fun t352 => (some t352)) else (if (bt322.1 == (x3.toList == x4.toList)) = true then (if (bt330.1 == (x3.toList != x4.toList)) = true then ((shuttlelaw12_awake.f k).bind fun t353 => (some t353)) else (some false)) else (some false))))) else (some false))))) else (if (bt289.1 != false) = true then (some false) else (if (bt300.1 != x13) = true then (some false) else (if (bt311.1 == x11) = true then (some false) else (if bt338.2 = bt346.2 then (if bt338.2 = 0 then (if (bt338.1 == bt346.1) = true then (some false) else (if (x3.size : Int) > 1024 then ((shuttlelaw12_awake.f k).bind fun t354 => (some t354)) else (if (x4.size : Int) > 1024 then ((shuttlelaw12_awake.f k).bind fun t355 => (some t355)) else (if (bt322.1 == (x3.toList == x4.toList)) = true then (if (bt330.1 == (x3.toList != x4.toList)) = true then ((shuttlelaw12_awake.f k).bind fun t356 => (some t356)) else (some false)) else (some false))))) else (if (x3.size : Int) > 1024 then ((shuttlelaw12_awake.f k).bind fun t357 => (some t357)) else (if (x4.size : Int) > 1024 then ((shuttlelaw12_awake.f k).bind fun t358 => (some t358)) else (if (bt322.1 == (x3.toList == x4.toList)) = true then (if (bt330.1 == (x3.toList != x4.toList)) = true then ((shuttlelaw12_awake.f k).bind fun t359 => (some t359)) else (some false)) else (some false))))) else (some false)))))) else (some false)) else (some false)) else (some false))) else (none)))) else (none)))) else (none)))) else (none)))))) else (none))))) else (none))))) else (none)))) else (none)))
def shuttlelaw12_RuleLogic.f (k : Nat) (l0 : List (S45)) (l1 : List (S45)) (l2 : List (S56)) (a3 : ByteArray) (a4 : ByteArray) : Option (Bool) := (shuttlelaw0_CopySteps.f l0).bind fun t257 => ((shuttlelaw0_CopyVars.f l2).bind fun t260 => ((rule_Eval.f t257 t260).bind fun bt263 => ((shuttlelaw0_CopySteps.f l1).bind fun t265 => ((shuttlelaw0_CopyVars.f l2).bind fun t268 => ((rule_Eval.f t265 t268).bind fun bt271 => (if bt263.2 = 0 then (if bt271.2 = 0 then (shuttlelaw12_RuleLogic.j0 k l0 l1 l2 a3 a4 bt263.1 bt271.1 (decide ((wrap64 ((l0.length : Int) + (l1.length : Int))) > 500))) else (shuttlelaw12_RuleLogic.j0 k l0 l1 l2 a3 a4 bt263.1 bt271.1 true)) else (shuttlelaw12_RuleLogic.j0 k l0 l1 l2 a3 a4 bt263.1 bt271.1 true)))))))
end Go.Proofs.Ytinhlaiogkmkfaa.PA
end
section
/- RuleLogic: the law's function answers true. -/
namespace Go.Proofs.Ytinhlaiogkmkfaa.PA
open Go.RowKit Go.Proofs.YtinhlaiogkmkfaaW.PrintWords Go.Proofs.YtinhlaiogkmkfaaW.PrintLast Go.Proofs.YtinhlaiogkmkfaaW.PrintMore
set_option linter.unusedVariables false
theorem sayV_eq {l : List S45} {vs : List S56} (h : StepsFit l) (hv : VarsFit vs) (hc : okC l = true) : G.sayV (rule_say.vrs vs) (expr_Check.prs l) = some (sayB l vs) := by
  have e := say_eq h hv hc
  unfold rule_say.f at e
  by_cases c : rule_say.fit l vs = true
  · rw [if_pos c] at e
    exact e
  · rw [if_neg c] at e
    cases e
theorem StepsFit.app {a b : List S45} (ha : StepsFit a) (hb : StepsFit b) (hl : a.length + b.length < 5864062014805) : StepsFit (a ++ b) :=
  ⟨by rw [List.length_append]; exact hl, fun x hx => (List.mem_append.1 hx).elim (ha.each x) (hb.each x)⟩
theorem StepsFit.one (k : Int) : StepsFit [(⟨k, (⟨#[]⟩ : ByteArray)⟩ : S45)] :=
  ⟨by simp, fun x hx => by rw [List.mem_singleton.1 hx]; exact Nat.zero_le _⟩
theorem VarsFit.nil : VarsFit [] := ⟨by simp, fun x hx => by cases hx⟩
theorem prs_app (a b : List S45) : expr_Check.prs (a ++ b) = expr_Check.prs a ++ expr_Check.prs b := by unfold expr_Check.prs; exact List.map_append
end Go.Proofs.Ytinhlaiogkmkfaa.PA
end
section
/- A folded part says what the part says: the relation, and what names fold to. -/
namespace Go.Proofs.Ytinhlaiogkmkfaa.PA
open Go.RowKit Go.Proofs.YtinhlaiogkmkfaaW.PrintWords Go.Proofs.YtinhlaiogkmkfaaW.PrintLast Go.Proofs.YtinhlaiogkmkfaaW.PrintMore
set_option linter.unusedVariables false
/-- Folded over vs, a part p says over all what the part of mark q and value v says. -/
structure Pt (vs all : List S56) (q : G.Prt) (v : G.Vl) (p : List S45) : Prop where
  nf : Nf vs p
  run : ∃ q', G.runC (expr_Check.prs p) [] = some [q'] ∧ q'.truth = q.truth
  lit : q.lit = true → p = [⟨1, q.text⟩]
  val : ∃ v', G.runV (rule_say.vrs all) (expr_Check.prs p) [] = some [v'] ∧ (q.truth = true → v'.ok = v.ok) ∧ (q.truth = false → v'.text = v.text)
  one : q.truth = false → ∃ k tx, p = [⟨k, tx⟩] ∧ (k = 1 ∨ k = 2)
theorem Pt.truth (vs all : List S56) (b : Bool) : Pt vs all G.tru ⟨G.mt, b⟩ (truthP b) := by
  refine ⟨Nf.truth vs b, ⟨G.tru, ?_, rfl⟩, fun h => (by cases h), ⟨⟨G.mt, b⟩, ?_, fun _ => rfl, fun _ => rfl⟩, fun h => (by cases h)⟩
  · have m0 : (⟨#[]⟩ : ByteArray).toList = [] := G.mt_nil
    cases b
    · show (G.stepC [] 5 ⟨#[]⟩).bind (fun x => some x) = _
      unfold G.stepC; simp [m0]
    · show (G.stepC [] 4 ⟨#[]⟩).bind (fun x => some x) = _
      unfold G.stepC; simp [m0]
  · cases b <;> rfl
theorem getV_app {a b : List (ByteArray × ByteArray)} {n : ByteArray} {z : ByteArray} (h : G.getV a n = some z) : G.getV (a ++ b) n = some z := by
  induction a with
  | nil => cases h
  | cons p r ih =>
    unfold G.getV at h
    show (if p.1.toList == n.toList then some p.2 else G.getV (r ++ b) n) = some z
    by_cases c : (p.1.toList == n.toList) = true
    · rw [if_pos c] at h ⊢; exact h
    · rw [if_neg c] at h ⊢; exact ih h
theorem get_more {vs more : List S56} {n : ByteArray} (h : G.getB (rule_say.vrs vs) n = true) : G.getB (rule_say.vrs (vs ++ more)) n = true ∧ G.getT (rule_say.vrs (vs ++ more)) n = G.getT (rule_say.vrs vs) n := by
  unfold G.getB at h ⊢
  unfold G.getT
  cases hz : G.getV (rule_say.vrs vs) n with
  | none => rw [hz] at h; cases h
  | some z =>
    have e : rule_say.vrs (vs ++ more) = rule_say.vrs vs ++ rule_say.vrs more := by unfold rule_say.vrs; exact List.map_append
    rw [e, getV_app hz]
    exact ⟨rfl, rfl⟩
/-- A step without parts. -/
theorem Pt.named {vs more : List S56} {x : S45} (ar : arityB x.f0 = 0) {q : G.Prt} {v : G.Vl} (hc : G.stepC [] x.f0 x.f1 = some [q]) (hv : G.stepV (rule_say.vrs (vs ++ more)) x.f0 x.f1 [] = some [v]) : Pt vs (vs ++ more) q v (namedP vs x.f0 x.f1) := by
  have nf := Nf.named vs x ar
  have self : namedP vs x.f0 x.f1 = [x] → (q.lit = true → [x] = [(⟨1, q.text⟩ : S45)]) → (q.truth = false → x.f0 = 1 ∨ x.f0 = 2) → Pt vs (vs ++ more) q v (namedP vs x.f0 x.f1) := by
    intro e hl h12
    rw [e] at nf ⊢
    refine ⟨nf, ⟨q, ?_, rfl⟩, hl, ⟨v, ?_, fun _ => rfl, fun _ => rfl⟩, fun h => ⟨x.f0, x.f1, rfl, h12 h⟩⟩
    · show (G.stepC [] x.f0 x.f1).bind (fun z => some z) = _
      rw [hc]; rfl
    · show (G.stepV (rule_say.vrs (vs ++ more)) x.f0 x.f1 []).bind (fun z => some z) = _
      rw [hv]; rfl
  by_cases c1 : x.f0 = 1
  · have e : namedP vs x.f0 x.f1 = [x] := by unfold namedP; rw [if_neg (by omega), if_neg (by omega)]
    rw [c1] at hc
    unfold G.stepC at hc
    simp only [if_true] at hc
    by_cases cs : x.f1.size ≤ 1024
    · rw [if_pos cs] at hc
      have eq : q = ⟨false, true, x.f1⟩ := by simpa using hc.symm
      subst eq
      exact self e (fun _ => by rw [← c1]) (fun _ => .inl c1)
    · rw [if_neg cs] at hc; cases hc
  by_cases c2 : x.f0 = 2
  · rw [c2] at hc hv
    have hq : q = ⟨false, false, G.mt⟩ := by
      unfold G.stepC at hc
      simp at hc
      exact hc.2.symm
    have hv2 : v = ⟨G.getT (rule_say.vrs (vs ++ more)) x.f1, false⟩ := by
      have : some [(⟨G.getT (rule_say.vrs (vs ++ more)) x.f1, false⟩ : G.Vl)] = some [v] := hv
      simpa using this.symm
    by_cases ck : G.getB (rule_say.vrs vs) x.f1 = true ∧ (G.getT (rule_say.vrs vs) x.f1).size ≤ 1024
    · have e : namedP vs x.f0 x.f1 = [⟨1, G.getT (rule_say.vrs vs) x.f1⟩] := by unfold namedP; rw [if_pos ⟨c2, ck.1, ck.2⟩]
      rw [e] at nf ⊢
      subst hq hv2
      refine ⟨nf, ⟨⟨false, true, G.getT (rule_say.vrs vs) x.f1⟩, ?_, rfl⟩, fun h => (by cases h), ⟨⟨G.getT (rule_say.vrs vs) x.f1, false⟩, rfl, fun h => (by cases h), fun _ => ((get_more (more := more) ck.1).2).symm⟩, fun _ => ⟨1, _, rfl, .inl rfl⟩⟩
      show (G.stepC [] 1 (G.getT (rule_say.vrs vs) x.f1)).bind (fun z => some z) = _
      unfold G.stepC
      simp [ck.2]
    · have e : namedP vs x.f0 x.f1 = [x] := by unfold namedP; rw [if_neg (fun h => ck h.2), if_neg (by omega)]
      rw [← c2] at hc hv
      exact self e (fun h => by rw [hq] at h; cases h) (fun _ => .inr c2)
  by_cases c3 : x.f0 = 3
  · have hq : q = G.tru := by
      have hc' := hc
      rw [c3] at hc'
      unfold G.stepC at hc'
      simp at hc'
      exact hc'.2.symm
    by_cases ck : G.getB (rule_say.vrs vs) x.f1 = true
    · have e : namedP vs x.f0 x.f1 = truthP true := by unfold namedP; rw [if_neg (by omega), if_pos ⟨c3, ck⟩]
      have hv2 : v = ⟨G.mt, true⟩ := by
        rw [c3] at hv
        have : some [(⟨G.mt, G.getB (rule_say.vrs (vs ++ more)) x.f1⟩ : G.Vl)] = some [v] := hv
        rw [(get_more (more := more) ck).1] at this
        simpa using this.symm
      rw [e, hq, hv2]
      exact Pt.truth vs _ true
    · have e : namedP vs x.f0 x.f1 = [x] := by unfold namedP; rw [if_neg (by omega), if_neg (fun h => ck h.2)]
      exact self e (fun h => by rw [hq] at h; cases h) (fun h => by rw [hq] at h; cases h)
  · have e : namedP vs x.f0 x.f1 = [x] := by unfold namedP; rw [if_neg (fun h => c2 h.1), if_neg (fun h => c3 h.1)]
    have hq : q = G.tru := by
      rcases arity_cases x.f0 with ⟨_, a, b, c⟩ | ⟨a, _⟩ | ⟨a, _⟩
      · unfold G.stepC at hc
        simp only [] at hc
        rw [if_neg c1, if_neg c2, if_neg c3] at hc
        by_cases c4 : x.f0 = 4 ∨ x.f0 = 5
        · rw [if_pos c4] at hc
          by_cases hb : x.f1.toList.isEmpty = true
          · rw [if_pos hb] at hc
            simpa using hc.symm
          · rw [if_neg hb] at hc; cases hc
        · rw [if_neg c4, if_neg (by omega), if_neg (by omega), if_neg (by omega), if_neg (by omega), if_neg (by omega)] at hc
          cases hc
      · omega
      · omega
    exact self e (fun h => by rw [hq] at h; cases h) (fun h => by rw [hq] at h; cases h)
end Go.Proofs.Ytinhlaiogkmkfaa.PA
end
section
/- One step of the check over one or two parts: what it asks, and that it is enough. -/
namespace Go.Proofs.Ytinhlaiogkmkfaa.G
open Go.RowKit
set_option linter.unusedVariables false
theorem pop_inv {C0 l st' : List Prt} {m : Nat} {t : Bool} {tx : ByteArray} {ok : List Prt → Bool} (hm : l.length = m)
    (h : (match popC (C0 ++ l) m t with | some (s, l) => if ok l && tx.toList.isEmpty then some (s ++ [tru]) else none | none => none) = some st') :
    st' = C0 ++ [tru] ∧ (∀ q ∈ l, q.truth = t) ∧ tx.toList.isEmpty = true ∧ ok l = true := by
  split at h
  · rename_i s l' hp
    obtain ⟨e, h1, h2⟩ := popC_parts hp
    obtain ⟨rfl, rfl⟩ := List.append_inj' e (by omega)
    split at h
    · rename_i h3
      rw [Bool.and_eq_true] at h3
      injection h with h
      exact ⟨h.symm, h2, h3.2, h3.1⟩
    · cases h
  · cases h
theorem inv1 {C0 C' : List Prt} {q : Prt} {k : Int} {tx : ByteArray} (hk : k = 6 ∨ k = 11) (h : stepC (C0 ++ [q]) k tx = some C') : C' = C0 ++ [tru] ∧ q.truth = decide (k = 11) ∧ tx.toList.isEmpty = true := by
  unfold stepC at h
  simp only [] at h
  rcases hk with rfl | rfl
  · rw [if_neg (by decide), if_neg (by decide), if_neg (by decide), if_neg (by decide), if_pos rfl] at h
    obtain ⟨a, b, c, _⟩ := pop_inv (ok := fun _ => true) rfl h
    exact ⟨a, b q (by simp), c⟩
  · rw [if_neg (by decide), if_neg (by decide), if_neg (by decide), if_neg (by decide), if_neg (by decide), if_neg (by decide), if_neg (by decide), if_pos rfl] at h
    obtain ⟨a, b, c, _⟩ := pop_inv (ok := fun _ => true) rfl h
    exact ⟨a, b q (by simp), c⟩
theorem inv2 {C0 C' : List Prt} {a b : Prt} {k : Int} {tx : ByteArray} (hk : k = 7 ∨ k = 8 ∨ k = 9 ∨ k = 10 ∨ k = 12 ∨ k = 13) (h : stepC (C0 ++ [a, b]) k tx = some C') :
    C' = C0 ++ [tru] ∧ a.truth = decide (12 ≤ k) ∧ b.truth = decide (12 ≤ k) ∧ tx.toList.isEmpty = true ∧ (k = 9 ∨ k = 10 → b.lit = true ∧ (checkRes b.text).2 = 0) := by
  unfold stepC at h
  simp only [] at h
  rw [if_neg (by omega), if_neg (by omega), if_neg (by omega), if_neg (by omega), if_neg (by omega)] at h
  by_cases c7 : k = 7 ∨ k = 8
  · rw [if_pos c7] at h
    obtain ⟨e, f, g, _⟩ := pop_inv (ok := fun _ => true) rfl h
    exact ⟨e, (f a (by simp)).trans (decide_eq_false (by omega)).symm, (f b (by simp)).trans (decide_eq_false (by omega)).symm, g, fun c => by omega⟩
  rw [if_neg c7] at h
  by_cases c9 : k = 9 ∨ k = 10
  · rw [if_pos c9] at h
    obtain ⟨e, f, g, o⟩ := pop_inv (ok := fun l => match l[1]? with | some q => q.lit && (checkRes q.text).2 == 0 | none => false) rfl h
    have o' : (b.lit && (checkRes b.text).2 == 0) = true := o
    rw [Bool.and_eq_true] at o'
    exact ⟨e, (f a (by simp)).trans (decide_eq_false (by omega)).symm, (f b (by simp)).trans (decide_eq_false (by omega)).symm, g, fun _ => ⟨o'.1, by simpa using o'.2⟩⟩
  rw [if_neg c9, if_neg (by omega), if_pos (by omega)] at h
  obtain ⟨e, f, g, _⟩ := pop_inv (ok := fun _ => true) rfl h
  exact ⟨e, (f a (by simp)).trans (decide_eq_true (by omega)).symm, (f b (by simp)).trans (decide_eq_true (by omega)).symm, g, fun c => by omega⟩
theorem mk1 {q : Prt} {k : Int} {tx : ByteArray} (hk : k = 6 ∨ k = 11) (hq : q.truth = decide (k = 11)) (hb : tx.toList.isEmpty = true) : stepC [q] k tx = some [tru] := by
  have hp : popC [q] 1 (decide (k = 11)) = some ([], [q]) := popC_some (st0 := []) rfl (by intro z hz; simp at hz; subst hz; exact hq)
  have hb' : tx.toList = [] := List.isEmpty_iff.1 hb
  rcases hk with rfl | rfl
  · unfold stepC; simp at hp; simp [hp, hb']
  · unfold stepC; simp at hp; simp [hp, hb']
theorem mk2 {a b : Prt} {k : Int} {tx : ByteArray} (hk : k = 7 ∨ k = 8 ∨ k = 9 ∨ k = 10 ∨ k = 12 ∨ k = 13) (ha : a.truth = decide (12 ≤ k)) (hq : b.truth = decide (12 ≤ k)) (hb : tx.toList.isEmpty = true)
    (ho : k = 9 ∨ k = 10 → b.lit = true ∧ (checkRes b.text).2 = 0) : stepC [a, b] k tx = some [tru] := by
  have hp : popC [a, b] 2 (decide (12 ≤ k)) = some ([], [a, b]) := popC_some (st0 := []) rfl (by intro z hz; simp at hz; rcases hz with rfl | rfl <;> assumption)
  have hb' : tx.toList = [] := List.isEmpty_iff.1 hb
  rcases hk with rfl | rfl | rfl | rfl | rfl | rfl
  · unfold stepC; simp at hp; simp [hp, hb']
  · unfold stepC; simp at hp; simp [hp, hb']
  · have o := ho (.inl rfl); unfold stepC; simp at hp; simp [hp, hb', o.1, o.2]
  · have o := ho (.inr rfl); unfold stepC; simp at hp; simp [hp, hb', o.1, o.2]
  · unfold stepC; simp at hp; simp [hp, hb']
  · unfold stepC; simp at hp; simp [hp, hb']
end Go.Proofs.Ytinhlaiogkmkfaa.G
end
section
/- A folded part says what the part says: a step over one part. -/
namespace Go.Proofs.Ytinhlaiogkmkfaa.PA
open Go.RowKit Go.Proofs.YtinhlaiogkmkfaaW.PrintWords Go.Proofs.YtinhlaiogkmkfaaW.PrintLast Go.Proofs.YtinhlaiogkmkfaaW.PrintMore
set_option linter.unusedVariables false
theorem sayB_of {l : List S45} {vs : List S56} {b : Bool} (hf : rule_say.fit l vs = true) (h : G.sayV (rule_say.vrs vs) (expr_Check.prs l) = some b) : sayB l vs = b := by
  have e : rule_say.f l vs = some b := by unfold rule_say.f; rw [if_pos hf]; exact h
  unfold sayB
  rw [e]
  rfl
theorem run_text {s : ByteArray} {q' : G.Prt} (h : G.runC (expr_Check.prs [(⟨1, s⟩ : S45)]) [] = some [q']) : s.size ≤ 1024 := by
  have h' : (G.stepC [] 1 s).bind (fun z => some z) = some [q'] := h
  by_cases c : s.size ≤ 1024
  · exact c
  · have e : G.stepC [] 1 s = none := by unfold G.stepC; simp [c]
    rw [e] at h'; cases h'
theorem Pt.text {vs all : List S56} {q : G.Prt} {v : G.Vl} {s : ByteArray} (h : Pt vs all q v [⟨1, s⟩]) (ht : q.truth = false) : s.size ≤ 1024 ∧ v.text = s := by
  obtain ⟨q', h1, _⟩ := h.run
  obtain ⟨v', h2, _, h3⟩ := h.val
  have e : some [(⟨s, false⟩ : G.Vl)] = some [v'] := h2
  have e' : v' = ⟨s, false⟩ := by simpa using e.symm
  exact ⟨run_text h1, by rw [← h3 ht, e']⟩
theorem prs_snoc (p : List S45) (x : S45) : expr_Check.prs (p ++ [x]) = expr_Check.prs p ++ [(x.f0, x.f1)] := by rw [prs_app]; rfl
/-- A step laid behind its one part. -/
theorem Pt.over1 {vs all : List S56} {x : S45} {q : G.Prt} {v v2 : G.Vl} {p : List S45} (hk : x.f0 = 6 ∨ x.f0 = 11) (h : Pt vs all q v p) (hq : q.truth = decide (x.f0 = 11)) (hb : x.f1.toList.isEmpty = true)
    (hv : G.stepV (rule_say.vrs all) x.f0 x.f1 [v] = some [v2]) (nf : Nf vs (p ++ [x])) : Pt vs all G.tru v2 (p ++ [x]) := by
  obtain ⟨q', h1, h2⟩ := h.run
  obtain ⟨v', h3, h4, h5⟩ := h.val
  refine ⟨nf, ⟨G.tru, ?_, rfl⟩, fun h => (by cases h), ?_, fun h => (by cases h)⟩
  · rw [prs_snoc, G.runC_app, h1, Option.bind_some]
    show (G.stepC [q'] x.f0 x.f1).bind (fun z => some z) = _
    rw [G.mk1 hk (h2.trans hq) hb]
    rfl
  · rw [prs_snoc, G.runV_app, h3, Option.bind_some]
    rcases hk with c | c
    · rw [c] at hq hv ⊢
      have e2 : some [(⟨G.mt, !v.text.toList.isEmpty⟩ : G.Vl)] = some [v2] := hv
      have e2' : v2 = ⟨G.mt, !v.text.toList.isEmpty⟩ := by simpa using e2.symm
      refine ⟨⟨G.mt, !v'.text.toList.isEmpty⟩, rfl, fun _ => ?_, fun h => (by cases h)⟩
      rw [e2', h5 hq]
    · rw [c] at hq hv ⊢
      have e2 : some [(⟨G.mt, !v.ok⟩ : G.Vl)] = some [v2] := hv
      have e2' : v2 = ⟨G.mt, !v.ok⟩ := by simpa using e2.symm
      refine ⟨⟨G.mt, !v'.ok⟩, rfl, fun _ => ?_, fun h => (by cases h)⟩
      rw [e2', h4 hq]
theorem Pt.step1 {vs all : List S56} {x : S45} {q : G.Prt} {v v2 : G.Vl} {p : List S45} (hk : x.f0 = 6 ∨ x.f0 = 11) (h : Pt vs all q v p) (hq : q.truth = decide (x.f0 = 11)) (hb : x.f1.toList.isEmpty = true) (ht : x.f1.size ≤ 140737488351232)
    (hv : G.stepV (rule_say.vrs all) x.f0 x.f1 [v] = some [v2]) : Pt vs all G.tru v2 (foldXp vs x [p]) := by
  have ar : arityB x.f0 = 1 := by rcases hk with c | c <;> rw [c] <;> rfl
  have nf : Nf vs (foldXp vs x [p]) := Nf.step x (by rw [ar]; rfl) (fun z hz => by rw [List.mem_singleton.1 hz]; exact h.nf)
  rcases hk with c | c
  · have e : foldXp vs x [p] = textsP x.f0 x.f1 [⟨p⟩] := by unfold foldXp; rw [if_neg (by omega), if_neg (by omega), if_pos (by omega)]; rfl
    have hq' : q.truth = false := by rw [hq, c]; rfl
    have e2 : v2 = ⟨G.mt, !v.text.toList.isEmpty⟩ := by
      rw [c] at hv
      have z : some [(⟨G.mt, !v.text.toList.isEmpty⟩ : G.Vl)] = some [v2] := hv
      simpa using z.symm
    by_cases h1 : ([⟨p⟩] : List S66).all (fun p => isP p.f0 1) = true
    · obtain ⟨s, hp⟩ := isP_one (p := p) (k := 1) (by simpa using h1)
      subst hp
      obtain ⟨hs, hvt⟩ := h.text hq'
      have eb : sayB ([⟨1, s⟩] ++ [x]) [] = !s.toList.isEmpty := by
        refine sayB_of (fit_of (by simp) (fun y hy => ?_) nil_fit) ?_
        · simp at hy
          rcases hy with rfl | rfl
          · exact Nat.le_trans hs (by decide)
          · exact ht
        · show G.sayV _ [(1, s), (x.f0, x.f1)] = _
          rw [c]
          rfl
      have e3 : textsP x.f0 x.f1 [⟨[⟨1, s⟩]⟩] = truthP (!s.toList.isEmpty) := by
        unfold textsP
        rw [if_pos h1]
        exact congrArg truthP eb
      rw [e, e3, e2, hvt]
      exact Pt.truth vs all _
    · have e3 : textsP x.f0 x.f1 [⟨p⟩] = p ++ [x] := by
        unfold textsP
        rw [if_neg h1, if_neg (show ¬ (sameVar [⟨p⟩] = true) from (by decide : ¬ (false = true)))]
        simp
      rw [e, e3] at nf ⊢
      exact h.over1 (.inl c) hq hb hv nf
  · have e : foldXp vs x [p] = notP x.f0 x.f1 p := by unfold foldXp; rw [if_pos c]
    have hq' : q.truth = true := by rw [hq, c]; rfl
    have e2 : v2 = ⟨G.mt, !v.ok⟩ := by
      rw [c] at hv
      have z : some [(⟨G.mt, !v.ok⟩ : G.Vl)] = some [v2] := hv
      simpa using z.symm
    obtain ⟨q', r1, r2⟩ := h.run
    obtain ⟨v', r3, r4, _⟩ := h.val
    by_cases h1 : (isP p 4 || isP p 5) = true
    · have e3 : notP x.f0 x.f1 p = truthP (isP p 5) := by unfold notP; rw [if_pos h1]
      have ev : isP p 5 = !v.ok := by
        rw [← r4 hq']
        rw [Bool.or_eq_true] at h1
        rcases h1 with h1 | h1
        · obtain ⟨s, rfl⟩ := isP_one h1
          have z : some [(⟨G.mt, true⟩ : G.Vl)] = some [v'] := r3
          have z' : v' = ⟨G.mt, true⟩ := by simpa using z.symm
          rw [z']
          rfl
        · obtain ⟨s, rfl⟩ := isP_one h1
          have z : some [(⟨G.mt, false⟩ : G.Vl)] = some [v'] := r3
          have z' : v' = ⟨G.mt, false⟩ := by simpa using z.symm
          rw [z']
          rfl
      rw [e, e3, e2, ev]
      exact Pt.truth vs all _
    · by_cases h2 : (p.getLast?.map (·.f0)) = some 11
      · obtain ⟨r, tx, rfl, hr⟩ := h.nf.unnot h2
        have e3 : notP x.f0 x.f1 (r ++ [⟨11, tx⟩]) = r := by unfold notP; rw [if_neg h1, if_pos h2]; simp
        rw [prs_snoc, G.runC_app, Option.bind_eq_some_iff] at r1
        rw [prs_snoc, G.runV_app, Option.bind_eq_some_iff] at r3
        obtain ⟨st, s1, s2⟩ := r1
        obtain ⟨sv, t1, t2⟩ := r3
        have s2' : (G.stepC st 11 tx).bind (fun z => some z) = some [q'] := s2
        have s3 : G.stepC st 11 tx = some [q'] := by
          cases hz : G.stepC st 11 tx with
          | none => rw [hz] at s2'; cases s2'
          | some z => rw [hz] at s2'; exact s2'
        have t2' : (G.lay1 sv (fun a => !a.ok)).bind (fun z => some z) = some [v'] := t2
        have t3 : G.lay1 sv (fun a => !a.ok) = some [v'] := by
          cases hz : G.lay1 sv (fun a => !a.ok) with
          | none => rw [hz] at t2'; cases t2'
          | some z => rw [hz] at t2'; exact t2'
        obtain ⟨y, hy, hyt⟩ : ∃ y, st = [y] ∧ y.truth = true := by
          rcases List.eq_nil_or_concat st with rfl | ⟨s, a, rfl⟩
          · have : G.stepC [] 11 tx = none := rfl
            rw [this] at s3; cases s3
          · rw [List.concat_eq_append] at s3 ⊢
            obtain ⟨z1, z2, _⟩ := G.inv1 (.inr rfl) s3
            have hs : s = [] := by
              have := congrArg List.length z1
              simp at this
              exact this
            subst hs
            exact ⟨a, rfl, z2⟩
        obtain ⟨w, hw, hwv⟩ : ∃ w, sv = [w] ∧ v'.ok = !w.ok := by
          obtain ⟨s, a, z1, z2⟩ := G.lay1_some t3
          have hs : s = [] := by
            have := congrArg List.length z2
            simp at this
            exact this
          subst hs
          have z3 : v' = ⟨G.mt, !a.ok⟩ := by simpa using z2
          exact ⟨a, z1, by rw [z3]⟩
        rw [e, e3]
        refine ⟨hr, ⟨y, by rw [s1, hy], hyt⟩, fun h => (by cases h), ⟨w, by rw [t1, hw], fun _ => ?_, fun h => (by cases h)⟩, fun h => (by cases h)⟩
        rw [e2, ← r4 hq', hwv]
        simp
      · have e3 : notP x.f0 x.f1 p = p ++ [x] := by unfold notP; rw [if_neg h1, if_neg h2]
        rw [e, e3] at nf ⊢
        exact h.over1 (.inr c) hq hb hv nf
end Go.Proofs.Ytinhlaiogkmkfaa.PA
end
