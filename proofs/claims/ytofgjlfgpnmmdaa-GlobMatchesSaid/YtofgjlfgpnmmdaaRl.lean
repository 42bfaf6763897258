/- The document's patterns and the program's are read alike: plain. -/
import Derived.Test.YtofgjlfgpnmmdaaRk
namespace Go.Proofs.Ytofgjlfgpnmmdaa.G
open Go.RowKit
set_option linter.unusedVariables false
set_option linter.unusedSimpArgs false
theorem byteB_ok {p : ByteArray} {x : Nat} (y : Int) (h : escBad p x = false) : byteB p x y = y := by
  unfold byteB
  unfold escBad at h
  by_cases h1 : bt p x = 92
  · rw [if_pos h1, if_neg (by simp [h1] at h; omega)]
  · rw [if_neg h1]
theorem escBad_parts {p : ByteArray} {x : Nat} (h : escBad p x = true) : bt p x = 92 ∧ p.size ≤ x + 1 := by
  simpa [escBad] using h
theorem byteB_bad {p : ByteArray} {x : Nat} (y : Int) (h : escBad p x = true) : byteB p x y = wrongAt y x := by
  obtain ⟨h1, h2⟩ := escBad_parts h
  unfold byteB
  rw [if_pos h1, if_pos h2]
theorem byteA_bad {p : ByteArray} {x : Nat} (h : escBad p x = true) : byteA p x = x + 1 := by
  obtain ⟨h1, h2⟩ := escBad_parts h
  unfold byteA
  rw [if_pos h1, if_pos h2]
theorem rgo_class (p : ByteArray) (fr : Nat) : ∀ n x R z S, p.size - x ≤ n → rgo p x R = some (z, S) → classGo p fr x (-1) R = (z, -1, S) := by
  intro n
  induction n with
  | zero =>
    intro x R z S h e
    have hg : goes p x = false := by
      cases hg : goes p x with
      | false => rfl
      | true => have := goes_lt hg; omega
    rw [rgo_stop R hg] at e
    simp only [Option.some.injEq, Prod.mk.injEq] at e
    rw [classGo_stop _ _ _ _ _ hg, e.1, e.2]
  | succ n ih =>
    intro x R z S h e
    cases hg : goes p x with
    | false =>
      rw [rgo_stop R hg] at e
      simp only [Option.some.injEq, Prod.mk.injEq] at e
      rw [classGo_stop _ _ _ _ _ hg, e.1, e.2]
    | true =>
      have hx := goes_lt hg
      rw [classGo_go _ _ _ _ _ hg]
      cases h1 : escBad p x with
      | true => rw [rgo_bad R hg h1] at e; cases e
      | false =>
        have b1 := byteB_ok (-1) h1
        have l1 := byteA_lt p x
        have l2 := byteA_lt p (byteA p x + 1)
        cases h2 : dash p (byteA p x) with
        | false =>
          rw [rgo_one R hg h1 h2] at e
          have := ih _ _ _ _ (by omega) e
          unfold stA stB stH
          rw [h2]
          simp only [Bool.false_eq_true, if_false, Int.lt_irrefl, b1]
          exact this
        | true =>
          cases h3 : escBad p (byteA p x + 1) with
          | true => rw [rgo_bad2 R hg h1 h2 h3] at e; cases e
          | false =>
            by_cases h4 : byteV p (byteA p x + 1) < byteV p x
            · rw [rgo_turned R hg h1 h2 h3 h4] at e; cases e
            · rw [rgo_two R hg h1 h2 h3 h4] at e
              have := ih _ _ _ _ (by omega) e
              unfold stA stB stH
              rw [h2]
              simp only [if_true, b1, byteB_ok (-1) h3, if_neg h4]
              exact this
def Inv (fr : Nat) (y : Int) : Prop := y = -1 ∨ (fr : Int) ≤ y
theorem Inv.at_ {fr : Nat} {y : Int} (h : Inv fr y) : wrongAt y fr = fr := by
  unfold wrongAt
  rcases h with h | h
  · rw [if_pos (by omega)]
  · rw [if_neg (by omega)]
    split
    · rfl
    · omega
theorem Inv.step {fr : Nat} {y : Int} (h : Inv fr y) (z : Nat) (hz : fr ≤ z) : Inv fr (wrongAt y z) := by
  unfold wrongAt Inv
  rcases h with h | h
  · rw [if_pos (by omega)]; omega
  · rw [if_neg (by omega)]
    split <;> omega
theorem wrongAt_low {y : Int} {z : Nat} (h0 : 0 ≤ y) (h : y ≤ z) : wrongAt y z = y := by
  unfold wrongAt
  rw [if_neg (by omega), if_neg (by omega)]
theorem byteB_low {p : ByteArray} {x : Nat} {y : Int} (h0 : 0 ≤ y) (h : y ≤ x) : byteB p x y = y := by
  cases h1 : escBad p x with
  | false => exact byteB_ok y h1
  | true => rw [byteB_bad y h1, wrongAt_low h0 h]
theorem class_low (p : ByteArray) (fr : Nat) (y : Int) (h0 : 0 ≤ y) (hy : y ≤ fr) : ∀ n x R, p.size - x ≤ n → fr ≤ x → (classGo p fr x y R).2.1 = y := by
  intro n
  induction n with
  | zero =>
    intro x R h hx
    have hg : goes p x = false := by
      cases hg : goes p x with
      | false => rfl
      | true => have := goes_lt hg; omega
    rw [classGo_stop _ _ _ _ _ hg]
  | succ n ih =>
    intro x R h hx
    cases hg : goes p x with
    | false => rw [classGo_stop _ _ _ _ _ hg]
    | true =>
      have hxl := goes_lt hg
      have l0 := stA_lt p x
      rw [classGo_go _ _ _ _ _ hg]
      have hb : stB p x y = y := by
        unfold stB
        have l1 := byteA_lt p x
        rw [byteB_low h0 (by omega : y ≤ (x : Int))]
        split
        · exact byteB_low h0 (by omega)
        · rfl
      rw [hb, wrongAt_low h0 hy]
      simp only [ite_self]
      exact ih _ _ (by omega) (by omega)
theorem stop_end (p : ByteArray) (fr x : Nat) (y : Int) (R : List (Int × Int)) (h : p.size ≤ x) (hi : Inv fr y) : classBad p fr (classGo p fr x y R) = fr := by
  have hg : goes p x = false := by
    cases hg : goes p x with
    | false => rfl
    | true => have := goes_lt hg; omega
  rw [classGo_stop _ _ _ _ _ hg]
  unfold classBad
  rw [if_pos (.inl h)]
  exact hi.at_
theorem class_bad (p : ByteArray) (fr : Nat) : ∀ n x R y, p.size - x ≤ n → fr < x → Inv fr y → rgo p x R = none → classBad p fr (classGo p fr x y R) = fr := by
  intro n
  induction n with
  | zero =>
    intro x R y h hx hi e
    have hg : goes p x = false := by
      cases hg : goes p x with
      | false => rfl
      | true => have := goes_lt hg; omega
    rw [rgo_stop R hg] at e
    cases e
  | succ n ih =>
    intro x R y h hx hi e
    cases hg : goes p x with
    | false => rw [rgo_stop R hg] at e; cases e
    | true =>
      have hxl := goes_lt hg
      have l1 := byteA_lt p x
      have l2 := byteA_lt p (byteA p x + 1)
      rw [classGo_go _ _ _ _ _ hg]
      cases h1 : escBad p x with
      | true =>
        have hs := (escBad_parts h1).2
        have ha := byteA_bad h1
        have hd : dash p (byteA p x) = false := by
          unfold dash
          rw [ha]
          simp
          omega
        unfold stA stB stH
        rw [hd]
        simp only [Bool.false_eq_true, if_false, Int.lt_irrefl, byteB_bad y h1]
        exact stop_end _ _ _ _ _ (by omega) (hi.step x (by omega))
      | false =>
        have b1 := byteB_ok y h1
        cases h2 : dash p (byteA p x) with
        | false =>
          rw [rgo_one R hg h1 h2] at e
          unfold stA stB stH
          rw [h2]
          simp only [Bool.false_eq_true, if_false, Int.lt_irrefl, b1]
          exact ih _ _ _ (by omega) (by omega) hi e
        | true =>
          unfold stA stB stH
          rw [h2]
          simp only [if_true, b1]
          cases h3 : escBad p (byteA p x + 1) with
          | true =>
            have hs := (escBad_parts h3).2
            have ha := byteA_bad h3
            rw [byteB_bad y h3]
            have hi2 := hi.step (byteA p x + 1) (by omega)
            refine stop_end _ _ _ _ _ (by omega) ?_
            split
            · exact .inr (by rw [hi2.at_]; exact Int.le_refl _)
            · exact hi2
          | false =>
            rw [byteB_ok y h3]
            by_cases h4 : byteV p (byteA p x + 1) < byteV p x
            · rw [if_pos h4, hi.at_]
              have := class_low p fr fr (by omega) (by omega) _ (byteA p (byteA p x + 1)) (R ++ [(byteV p x, byteV p (byteA p x + 1))]) (Nat.le_refl _) (by omega)
              unfold classBad
              rw [this, wrongAt_low (by omega) (by omega)]
              simp
            · rw [if_neg h4]
              rw [rgo_two R hg h1 h2 h3 h4] at e
              exact ih _ _ _ (by omega) (by omega) hi e
/-- Brackets that the document takes. -/
theorem brk_cls {p : ByteArray} {x z : Nat} {f : Int → Bool} (h : brk p x = some (z, f)) : ∃ R, clsF p x (-1) = (z - 1, -1, R) ∧ z - 1 < p.size ∧ 1 ≤ z ∧ R ≠ [] ∧ f = classL R (notAt p (x + 1)) := by
  unfold brk at h
  split at h
  · rename_i y R hr
    split at h
    · rename_i hc
      simp only [Option.some.injEq, Prod.mk.injEq] at h
      obtain ⟨h1, h2⟩ := h
      refine ⟨R, ?_, by omega, by omega, hc.2, h2.symm⟩
      unfold clsF
      rw [rgo_class p x _ _ _ _ _ (Nat.le_refl _) hr]
      congr 1
      omega
    · cases h
  · cases h
theorem brk_cls_no {p : ByteArray} {x : Nat} (h : brk p x = none) : classBad p x (clsF p x (-1)) = x := by
  unfold brk at h
  split at h
  · rename_i y R hr
    split at h
    · cases h
    · rename_i hc
      unfold clsF
      rw [rgo_class p x _ _ _ _ _ (Nat.le_refl _) hr]
      unfold classBad
      rw [if_pos (by
        by_cases h1 : y < p.size
        · right
          by_cases h2 : R = []
          · exact h2
          · exact absurd ⟨h1, h2⟩ hc
        · left
          show p.size ≤ y
          omega)]
      exact Inv.at_ (.inl rfl)
  · rename_i hr
    unfold clsF
    refine class_bad p x _ _ _ _ (Nat.le_refl _) ?_ (.inl rfl) hr
    split <;> omega
theorem stp_stop {p : ByteArray} {x : Nat} (y : Int) (l : List Stp) (h : ¬ x < p.size) : stepsGo p x y l = (y, l) := by rw [stepsGo, dif_neg h]
theorem stp_all {p : ByteArray} {x : Nat} (y : Int) (l : List Stp) (h : x < p.size) (h1 : bt p x = 42) (h2 : x + 1 < p.size ∧ bt p (x + 1) = 42) : stepsGo p x y l = stepsGo p (x + 2) y (l ++ [⟨true, fun _ => true⟩]) := by rw [stepsGo, dif_pos h, if_pos h1, if_pos h2]
theorem stp_some {p : ByteArray} {x : Nat} (y : Int) (l : List Stp) (h : x < p.size) (h1 : bt p x = 42) (h2 : ¬ (x + 1 < p.size ∧ bt p (x + 1) = 42)) : stepsGo p x y l = stepsGo p (x + 1) y (l ++ [⟨true, fun c => c != 47⟩]) := by rw [stepsGo, dif_pos h, if_pos h1, if_neg h2]
theorem stp_quest {p : ByteArray} {x : Nat} (y : Int) (l : List Stp) (h : x < p.size) (h1 : bt p x = 63) : stepsGo p x y l = stepsGo p (x + 1) y (l ++ [⟨false, fun c => c != 47⟩]) := by rw [stepsGo, dif_pos h, if_neg (by omega), if_pos h1]
theorem stp_brk {p : ByteArray} {x : Nat} (y : Int) (l : List Stp) (h : x < p.size) (h1 : bt p x = 91) : stepsGo p x y l = stepsGo p ((clsF p x y).1 + 1) (classBad p x (clsF p x y)) (l ++ [⟨false, classL (clsF p x y).2.2 (notAt p (x + 1))⟩]) := by rw [stepsGo, dif_pos h, if_neg (by omega), if_neg (by omega), if_pos h1]
theorem stp_byte {p : ByteArray} {x : Nat} (y : Int) (l : List Stp) (h : x < p.size) (h1 : bt p x ≠ 42) (h2 : bt p x ≠ 63) (h3 : bt p x ≠ 91) : stepsGo p x y l = stepsGo p (byteA p x) (byteB p x y) (l ++ [⟨false, fun c => c == byteV p x⟩]) := by rw [stepsGo, dif_pos h, if_neg h1, if_neg h2, if_neg h3]
theorem steps_low (p : ByteArray) (y : Int) (h0 : 0 ≤ y) : ∀ n x l, p.size - x ≤ n → y ≤ x → (stepsGo p x y l).1 = y := by
  intro n
  induction n with
  | zero =>
    intro x l h hy
    rw [stp_stop y l (by omega)]
  | succ n ih =>
    intro x l h hy
    by_cases hx : x < p.size
    · by_cases c1 : bt p x = 42
      · by_cases c2 : x + 1 < p.size ∧ bt p (x + 1) = 42
        · rw [stp_all y l hx c1 c2]; exact ih _ _ (by omega) (by omega)
        · rw [stp_some y l hx c1 c2]; exact ih _ _ (by omega) (by omega)
      · by_cases c3 : bt p x = 63
        · rw [stp_quest y l hx c3]; exact ih _ _ (by omega) (by omega)
        · by_cases c4 : bt p x = 91
          · have hc := clsF_gt p x y
            have hl : (clsF p x y).2.1 = y := class_low p x y h0 hy _ _ [] (Nat.le_refl _) (by split <;> omega)
            have hb : classBad p x (clsF p x y) = y := by
              unfold classBad
              rw [hl, wrongAt_low h0 hy]
              simp
            rw [stp_brk y l hx c4, hb]
            exact ih _ _ (by omega) (by omega)
          · have hc := byteA_lt p x
            rw [stp_byte y l hx c1 c3 c4, byteB_low h0 hy]
            exact ih _ _ (by omega) (by omega)
    · rw [stp_stop y l hx]
theorem toStp_all : toStp ((2, fun _ => false) : Pce) = ⟨true, fun _ => true⟩ := rfl
theorem toStp_some : toStp ((1, fun _ => false) : Pce) = ⟨true, fun c => c != 47⟩ := rfl
theorem toStp_one (f : Int → Bool) : toStp ((0, f) : Pce) = ⟨false, f⟩ := rfl
theorem pcs_steps (p : ByteArray) : ∀ n x m, p.size - x ≤ n → match pcsGo p x m with
    | .inl z => (stepsGo p x (-1) (m.map toStp)).1 = (z : Int)
    | .inr m' => stepsGo p x (-1) (m.map toStp) = (-1, m'.map toStp) := by
  intro n
  induction n with
  | zero =>
    intro x m h
    rw [pcs_stop m (by omega), stp_stop (-1) _ (by omega)]
  | succ n ih =>
    intro x m h
    by_cases hx : x < p.size
    · by_cases c1 : bt p x = 42
      · by_cases c2 : x + 1 < p.size ∧ bt p (x + 1) = 42
        · have := ih (x + 2) (m ++ [((2, fun _ => false) : Pce)]) (by omega)
          rw [List.map_append, List.map_cons, List.map_nil, toStp_all] at this
          rw [pcs_all m hx c1 c2, stp_all (-1) _ hx c1 c2]
          exact this
        · have := ih (x + 1) (m ++ [((1, fun _ => false) : Pce)]) (by omega)
          rw [List.map_append, List.map_cons, List.map_nil, toStp_some] at this
          rw [pcs_some m hx c1 c2, stp_some (-1) _ hx c1 c2]
          exact this
      · by_cases c3 : bt p x = 63
        · have := ih (x + 1) (m ++ [((0, fun c => c != 47) : Pce)]) (by omega)
          rw [List.map_append, List.map_cons, List.map_nil, toStp_one] at this
          rw [pcs_quest m hx c3, stp_quest (-1) _ hx c3]
          exact this
        · by_cases c4 : bt p x = 91
          · rw [stp_brk (-1) _ hx c4]
            cases hB : brk p x with
            | none =>
              rw [pcs_brkno m hx c4 hB]
              have := clsF_gt p x (-1)
              rw [brk_cls_no hB]
              exact steps_low p x (by omega) _ _ _ (Nat.le_refl _) (by omega)
            | some F =>
              obtain ⟨z, f⟩ := F
              obtain ⟨R, e1, e2, e3, e4, e5⟩ := brk_cls hB
              have hg := brk_gt hB
              rw [pcs_brk m hx c4 hB, e1]
              have hb : classBad p x (z - 1, -1, R) = -1 := classBad_no e2 (List.length_pos_iff.2 e4)
              rw [hb]
              have := ih z (m ++ [((0, f) : Pce)]) (by omega)
              rw [List.map_append, List.map_cons, List.map_nil, toStp_one, e5] at this
              simp only [show z - 1 + 1 = z from by omega]
              rw [e5]
              exact this
          · rw [stp_byte (-1) _ hx c1 c3 c4]
            by_cases c5 : bt p x = 92
            · by_cases c6 : p.size ≤ x + 1
              · have hE : escBad p x = true := by simp [escBad, c5, c6]
                rw [pcs_escno m hx c5 c6, byteB_bad _ hE, byteA_bad hE]
                have : wrongAt (-1) x = x := Inv.at_ (.inl rfl)
                rw [this]
                exact steps_low p x (by omega) _ _ _ (Nat.le_refl _) (by omega)
              · have hE : escBad p x = false := by simp [escBad, c5]; omega
                have hv : byteV p x = bt p (x + 1) := by unfold byteV; rw [if_pos c5, if_neg c6]
                have ha : byteA p x = x + 2 := by unfold byteA; rw [if_pos c5, if_neg c6]
                have := ih (x + 2) (m ++ [((0, fun c => c == bt p (x + 1)) : Pce)]) (by omega)
                rw [List.map_append, List.map_cons, List.map_nil, toStp_one] at this
                rw [pcs_esc m hx c5 c6, byteB_ok _ hE, hv, ha]
                exact this
            · have hE : escBad p x = false := by simp [escBad, c5]
              have hv : byteV p x = bt p x := by unfold byteV; rw [if_neg c5]
              have ha : byteA p x = x + 1 := by unfold byteA; rw [if_neg c5]
              have := ih (x + 1) (m ++ [((0, fun c => c == bt p x) : Pce)]) (by omega)
              rw [List.map_append, List.map_cons, List.map_nil, toStp_one] at this
              rw [pcs_byte m hx c1 c3 c4 c5, byteB_ok _ hE, hv, ha]
              exact this
    · rw [pcs_stop m hx, stp_stop (-1) _ hx]
theorem rcheck_eq (p : ByteArray) : rcheckRes p = checkRes p := by
  unfold rcheckRes checkRes
  by_cases h : 256 < p.size
  · rw [if_pos h, if_pos h]
  · rw [if_neg h, if_neg h]
    have := pcs_steps p _ 0 [] (Nat.le_refl _)
    unfold gSteps
    rw [List.map_nil] at this
    cases hG : pcsGo p 0 [] with
    | inl z =>
      rw [hG] at this
      simp only [] at this
      rw [if_pos (by omega), this]
    | inr l =>
      rw [hG] at this
      simp only [] at this
      rw [this, if_neg (by simp)]
theorem rmatch_eq (p s : ByteArray) : rmatchRes p s = matchRes p s := by
  unfold rmatchRes matchRes
  rw [rcheck_eq]
  by_cases h : (checkRes p).2 = 0
  · rw [if_pos h, if_pos h]
    have hL : rL p = (gSteps p).2 := by
      have := pcs_steps p _ 0 [] (Nat.le_refl _)
      rw [List.map_nil] at this
      have h1 : ¬ 256 < p.size := fun c => by unfold checkRes at h; rw [if_pos c] at h; simp at h
      cases hG : pcsGo p 0 [] with
      | inl z =>
        rw [hG] at this
        simp only [] at this
        unfold checkRes gSteps at h
        rw [if_neg h1, if_pos (by omega)] at h
        simp at h
      | inr l =>
        rw [hG] at this
        simp only [] at this
        unfold rL gSteps
        rw [hG, this]
    rw [hL]
  · rw [if_neg h, if_neg h]
end Go.Proofs.Ytofgjlfgpnmmdaa.G
