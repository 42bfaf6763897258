/- Texts of this claim, joined: words and laws that the others use. -/
import Derived.Test.YtinhlaiogkmkfaaQGg
import Derived.Deep.RegionLaw
import Derived.BigRegion
import Derived.Deep.RegionHeld3
import Derived.StillTailTactics
import Derived.IntWalk
section
/- expr's walk over steps: one step. -/
namespace Go.Proofs.Ytinhlaiogkmkfaa.G
open Go.RowKit
attribute [local simp, local go_sem] alloc_drewN setCell_drewN
set_option linter.unusedVariables false
set_option linter.unusedSimpArgs false
set_option maxRecDepth 100000
def mt : ByteArray := ⟨#[]⟩
/-- The k parts at the top, if they are all truths (or all texts). -/
def popC (st : List Prt) (k : Nat) (t : Bool) : Option (List Prt × List Prt) :=
  if st.length < k then none
  else if (st.drop (st.length - k)).all (fun q => q.truth == t) then some (st.take (st.length - k), st.drop (st.length - k)) else none
theorem popC_none {st : List Prt} {k : Nat} {t : Bool} (h : ¬ Has st k t) : popC st k t = none := by
  unfold popC
  by_cases h1 : st.length < k
  · rw [if_pos h1]
  · rw [if_neg h1, if_neg]
    intro h2
    refine h ⟨st.take (st.length - k), st.drop (st.length - k), (List.take_append_drop _ _).symm, by simp; omega, fun q hq => ?_⟩
    have := List.all_eq_true.1 h2 q hq
    simpa using this
theorem popC_some {st0 l : List Prt} {k : Nat} {t : Bool} (h1 : l.length = k) (h2 : ∀ q ∈ l, q.truth = t) : popC (st0 ++ l) k t = some (st0, l) := by
  subst h1
  unfold popC
  rw [if_neg (by simp), List.length_append, Nat.add_sub_cancel, List.drop_left, List.take_left, if_pos]
  rw [List.all_eq_true]
  intro q hq
  simp [h2 q hq]
def tru : Prt := ⟨true, false, mt⟩
/-- What one step does to the stack; none: it may not be. -/
def stepC (st : List Prt) (k : Int) (tx : ByteArray) : Option (List Prt) :=
  let bare : Bool := tx.toList.isEmpty
  let pop (n : Nat) (t : Bool) (ok : List Prt → Bool) : Option (List Prt) := match popC st n t with
    | some (s, l) => if ok l && bare then some (s ++ [tru]) else none
    | none => none
  if k = 1 then (if tx.size ≤ 1024 then some (st ++ [⟨false, true, tx⟩]) else none)
  else if k = 2 then (if variableB tx then some (st ++ [⟨false, false, mt⟩]) else none)
  else if k = 3 then (if variableB tx then some (st ++ [tru]) else none)
  else if k = 4 ∨ k = 5 then (if bare then some (st ++ [tru]) else none)
  else if k = 6 then pop 1 false (fun _ => true)
  else if k = 7 ∨ k = 8 then pop 2 false (fun _ => true)
  else if k = 9 ∨ k = 10 then pop 2 false (fun l => match l[1]? with | some q => q.lit && (checkRes q.text).2 == 0 | none => false)
  else if k = 11 then pop 1 true (fun _ => true)
  else if k = 12 ∨ k = 13 then pop 2 true (fun _ => true)
  else none
theorem Wk.grow {W w1 : World} {g : Nat} {v : Value} {st : List Prt} (h : Wk W g v st) (hg : W.grownBy w1 v.ownBlock) : w1.heap[g]? = some (.cells #[v] 75 (0, 0)) ∧ But (Ge g) W w1 := by
  refine ⟨(hg.block g h.lt ?_).trans h.1, (But.refl (Ge g) W).grown hg (fun k hk => .inl (Nat.le_trans (Nat.le_succ g) (h.2.lt k hk).1))⟩
  intro e
  have := (h.2.lt g e.symm).1
  omega
theorem Wk.put2 {w1 : World} {g : Nat} {v v' : Value} {st' : List Prt} (h : w1.heap[g]? = some (.cells #[v] 75 (0, 0))) (ho : prE.Own w1 (g + 1) v' st') : Wk (w1.setCell ⟨g, 0, none⟩ v') g v' st' :=
  ⟨by rw [blkset h 0 v']; rfl, ho.set (p := ⟨g, 0, none⟩) (Nat.lt_succ_self g) _⟩
theorem xcell {w W w1 : World} {g : Nat} {v : Value} {st : List Prt} {k : Int} {tx : ByteArray} (h : Wk w g v st) (hb : But No (w.alloc (.cells #[.int .i64 k, .string tx] 45)) W) (hg : W.grownBy w1 v.ownBlock) :
    w1.cell? ⟨w.heap.size, 1, none⟩ = some (.string tx) := by
  have h1 := hb.block w.heap.size (by simp) (fun c => c)
  rw [heap_alloc_new] at h1
  have h2 := hg.block w.heap.size (lt_of_block h1) (by
    intro e
    have := (h.2.lt _ e.symm).2
    omega)
  rw [cell_of_row w1 _ 1 _ _ _ (h2.trans h1)]
  rfl
theorem bools1 (w : World) (t : Bool) {b : Nat} (hb : w.heap.size = b) : ∀ i, i < 1 → (w.alloc (.cells #[.bool t] 4)).cell? ⟨b, i, none⟩ = some (.bool t) := by
  subst hb
  intro i hi
  obtain rfl : i = 0 := by omega
  rw [cell_of_row _ _ 0 _ _ _ (heap_alloc_new w _)]
  rfl
theorem bools2 (w : World) (t : Bool) {b : Nat} (hb : w.heap.size = b) : ∀ i, i < 2 → (w.alloc (.cells #[.bool t, .bool t] 4)).cell? ⟨b, i, none⟩ = some (.bool t) := by
  subst hb
  intro i hi
  rcases (by omega : i = 0 ∨ i = 1) with rfl | rfl
  · rw [cell_of_row _ _ 0 _ _ _ (heap_alloc_new w _)]
    rfl
  · rw [cell_of_row _ _ 1 _ _ _ (heap_alloc_new w _)]
    rfl
def StepPost (w : World) (g : Nat) (R : Option (List Prt)) (e : Ending) (w' : World) : Prop :=
  But (Ge g) w w' ∧ match R with
    | some st' => e = .returned (.bool true) ∧ ∃ v, Wk w' g v st'
    | none => e = .returned (.bool false)
def Mid (w : World) (g : Nat) (R : Option (List Prt)) (v5 v6 : Value) (wc : World) : Prop :=
  ∃ (bare ok : Bool) (v : Value) (st1 : List Prt), v5 = .bool bare ∧ v6 = .bool ok ∧ But (Ge g) w wc ∧ Wk wc g v st1 ∧ st1.length ≤ 1024 ∧ R = if ok && bare then some (st1 ++ [tru]) else none
set_option maxHeartbeats 16000000 in
theorem wstep0 (g : Nat) (st : List Prt) (v : Value) (k : Int) (tx : ByteArray) (w : World) (h : Wk w g v st) (hst : st.length ≤ 1024) (hsz : ∀ q ∈ st, q.text.size ≤ 1024) (htx : tx.size ≤ 9223372036854775807) (R : Option (List Prt)) (hR : stepC st k tx = R) :
    Calls Try.prog 46 #[.pointer (some ⟨g, 0, none⟩), .agg #[.int .i64 k, .string tx]] w (StepPost w g R) := by
  have htx2 : tx.size ≤ 9223372036854775807 := by omega
  have hgl := h.lt
  have HR := Lib.hid hR
  clear hR
  obtain ⟨eb, heb⟩ : ∃ eb : Bool, tx.toList.isEmpty = eb := ⟨_, rfl⟩
  have HEB := Lib.hid heb
  go_enter Try.func46, Try.ntmps46
  go_upto_block 0 with (fail)
  go_cut [5, 6] (fun v5 v6 wc => Mid w g R v5 v6 wc)
  case first =>
    have HW := Lib.hid h
    have hg0 := h.cell
    have hgf := h.free 0
    have HST := Lib.hid hsz
    clear h hsz
    rcases (by omega : k = 1 ∨ k = 2 ∨ k = 3 ∨ k = 4 ∨ k = 5 ∨ k = 6 ∨ k = 7 ∨ k = 8 ∨ k = 9 ∨ k = 10 ∨ k = 11 ∨ k = 12 ∨ k = 13 ∨ (k < 1 ∨ 13 < k)) with rfl | rfl | rfl | rfl | rfl | rfl | rfl | rfl | rfl | rfl | rfl | rfl | rfl | hk
    · have hne : ¬ w.heap.size = g := by omega
      by_cases hs1 : tx.size ≤ 1024
      · have E := Lib.hid (show R = some (st ++ [⟨false, true, tx⟩]) from by rw [← HR.out]; simp [stepC, hs1])
        have hs1' : (tx.size : Int) ≤ 1024 := by omega
        have d1 : decide ((tx.size : Int) ≤ 1024) = true := by simp; omega
        go_wp2_with fail
        go_region_law ((refine prE.step1 rfl _ _ rfl rfl (g + 1) v st rfl (HW.out.2.new ((((But.refl No w).alloc _).drew).alloc _)) (w.heap.size + 1) ⟨false, true, tx⟩ #[.bool false, .bool true, .string tx] rfl rfl (heap_alloc2_new w _ _) (by show (st.length + 1) * (24 + 1) ≤ _; omega) (by simp; omega) ?_; intro g2 c2 w1 hown hgrow; (have hq := (HW.out.new ((((But.refl No w).alloc _).drew).alloc _)).grow hgrow); (have hq1 : w1.cell? ⟨g, 0, none⟩ = some v := cell_of_row w1 g 0 _ _ _ hq.1); (have hq2 := blkfree hq.1 0); (have hx : w1.cell? ⟨w.heap.size, 1, none⟩ = some (.string tx) := xcell HW.out (((But.refl No _).drew).alloc _) hgrow); (have HQ := Lib.hid hq); (have HP := Lib.hid (Wk.put2 hq.1 hown)); clear hq hgrow hown))
        all_goals
          go_wp2_with fail
          go_ret
          refine ⟨(((((But.refl _ w).alloc _).drew).alloc _).trans HQ.out.2).setCell (p := ⟨g, 0, none⟩) (.inl (Nat.le_refl g)) _, ?_⟩
          rw [E.out]
          exact ⟨rfl, _, HP.out⟩
      · have E := Lib.hid (show R = none from by rw [← HR.out]; simp [stepC, hs1])
        have hs1' : ¬ (tx.size : Int) ≤ 1024 := by omega
        have d1 : decide ((tx.size : Int) ≤ 1024) = false := by simp; omega
        go_wp2_with fail
        go_region_law ((refine prE.step1 rfl _ _ rfl rfl (g + 1) v st rfl (HW.out.2.new ((((But.refl No w).alloc _).drew).alloc _)) (w.heap.size + 1) ⟨false, true, tx⟩ #[.bool false, .bool true, .string tx] rfl rfl (heap_alloc2_new w _ _) (by show (st.length + 1) * (24 + 1) ≤ _; omega) (by simp; omega) ?_; intro g2 c2 w1 hown hgrow; (have hq := (HW.out.new ((((But.refl No w).alloc _).drew).alloc _)).grow hgrow); (have hq1 : w1.cell? ⟨g, 0, none⟩ = some v := cell_of_row w1 g 0 _ _ _ hq.1); (have hq2 := blkfree hq.1 0); (have hx : w1.cell? ⟨w.heap.size, 1, none⟩ = some (.string tx) := xcell HW.out (((But.refl No _).drew).alloc _) hgrow); (have HQ := Lib.hid hq); (have HP := Lib.hid (Wk.put2 hq.1 hown)); clear hq hgrow hown))
        all_goals
          go_wp2_with fail
          go_ret
          refine ⟨(((((But.refl _ w).alloc _).drew).alloc _).trans HQ.out.2).setCell (p := ⟨g, 0, none⟩) (.inl (Nat.le_refl g)) _, ?_⟩
          rw [E.out]
          rfl
    · have hne : ¬ w.heap.size = g := by omega
      cases hv : variableB tx with
      | false =>
        have E := Lib.hid (show R = none from by rw [← HR.out]; simp [stepC, hv])
        have hvv := fun w2 => variable0 tx w2 htx
        rw [hv] at hvv
        have HV := Lib.hid hvv
        clear hv hvv
        go_wp2_with (first | (go_at_call 64; refine (HV.out _).mono ?_; rintro e w2 ⟨rfl, rfl⟩) | (refine prE.append1 rfl _ _ rfl rfl (g + 1) v st rfl (HW.out.2.new (((But.refl No w).alloc _).alloc _)) (w.heap.size + 1) ⟨false, false, mt⟩ #[.bool false, .bool false, .string mt] rfl rfl (heap_alloc2_new w _ _) (by show (st.length + 1) * (24 + 1) ≤ _; omega) (by simp; omega) ?_; intro g2 c2 w1 hown hgrow; (have hq := (HW.out.new (((But.refl No w).alloc _).alloc _)).grow hgrow); (have hq1 : w1.cell? ⟨g, 0, none⟩ = some v := cell_of_row w1 g 0 _ _ _ hq.1); (have hq2 := blkfree hq.1 0); (have hx : w1.cell? ⟨w.heap.size, 1, none⟩ = some (.string tx) := xcell HW.out ((But.refl No _).alloc _) hgrow); (have HQ := Lib.hid hq); (have HP := Lib.hid (Wk.put2 hq.1 hown)); clear hq hgrow hown))
        go_ret
        refine ⟨((((But.refl _ w).alloc _).alloc _).trans HQ.out.2).setCell (p := ⟨g, 0, none⟩) (.inl (Nat.le_refl g)) _, ?_⟩
        rw [E.out]
        rfl
      | true =>
        have E := Lib.hid (show R = some (st ++ [⟨false, false, mt⟩]) from by rw [← HR.out]; simp [stepC, hv])
        have hvv := fun w2 => variable0 tx w2 htx
        rw [hv] at hvv
        have HV := Lib.hid hvv
        clear hv hvv
        go_wp2_with (first | (go_at_call 64; refine (HV.out _).mono ?_; rintro e w2 ⟨rfl, rfl⟩) | (refine prE.append1 rfl _ _ rfl rfl (g + 1) v st rfl (HW.out.2.new (((But.refl No w).alloc _).alloc _)) (w.heap.size + 1) ⟨false, false, mt⟩ #[.bool false, .bool false, .string mt] rfl rfl (heap_alloc2_new w _ _) (by show (st.length + 1) * (24 + 1) ≤ _; omega) (by simp; omega) ?_; intro g2 c2 w1 hown hgrow; (have hq := (HW.out.new (((But.refl No w).alloc _).alloc _)).grow hgrow); (have hq1 : w1.cell? ⟨g, 0, none⟩ = some v := cell_of_row w1 g 0 _ _ _ hq.1); (have hq2 := blkfree hq.1 0); (have hx : w1.cell? ⟨w.heap.size, 1, none⟩ = some (.string tx) := xcell HW.out ((But.refl No _).alloc _) hgrow); (have HQ := Lib.hid hq); (have HP := Lib.hid (Wk.put2 hq.1 hown)); clear hq hgrow hown))
        go_ret
        refine ⟨((((But.refl _ w).alloc _).alloc _).trans HQ.out.2).setCell (p := ⟨g, 0, none⟩) (.inl (Nat.le_refl g)) _, ?_⟩
        rw [E.out]
        exact ⟨rfl, _, HP.out⟩
    · obtain ⟨b, hv⟩ : ∃ b, variableB tx = b := ⟨_, rfl⟩
      have E := Lib.hid (show R = if b && true then some (st ++ [tru]) else none from by rw [← HR.out]; simp [stepC, hv])
      have hvv := fun w2 => variable0 tx w2 htx
      rw [hv] at hvv
      have HV := Lib.hid hvv
      clear hv hvv
      go_wp2_with (go_at_call 64; refine (HV.out _).mono ?_; rintro e w2 ⟨rfl, rfl⟩)
      go_meet
      case rel => exact ⟨true, b, v, st, rfl, rfl, (But.refl _ w).alloc _, HW.out.new ((But.refl No w).alloc _), hst, E.out⟩
    · have E := Lib.hid (show R = if true && eb then some (st ++ [tru]) else none from by rw [← HR.out, ← HEB.out]; simp [stepC])
      go_wp2_with fail
      go_meet
      case rel => exact ⟨eb, true, v, st, rfl, rfl, (But.refl _ w).alloc _, HW.out.new ((But.refl No w).alloc _), hst, E.out⟩
    · have E := Lib.hid (show R = if true && eb then some (st ++ [tru]) else none from by rw [← HR.out, ← HEB.out]; simp [stepC])
      go_wp2_with fail
      go_meet
      case rel => exact ⟨eb, true, v, st, rfl, rfl, (But.refl _ w).alloc _, HW.out.new ((But.refl No w).alloc _), hst, E.out⟩
    · have HR2 := Lib.hid (show stepC st 6 tx = (match popC st 1 false with | some (s, l) => if true && eb then some (s ++ [tru]) else none | none => none) from by rw [← HEB.out]; rfl)
      go_wp2_with fail
      refine (takes0 g st v (w.heap.size + 1) 1 false _ (HW.out.new (((But.refl No w).alloc _).alloc _)) hst (by decide) (by decide) (by omega) (by simp) (bools1 _ false (by simp))).mono ?_
      rintro e w2 ⟨hbt, h2⟩
      rcases h2 with ⟨rfl, ⟨v2, hW2⟩, hN⟩ | ⟨st0, l, vl, v2, e1, e2, e3, rfl, hL, hW2⟩
      · have E := Lib.hid (show R = if false && eb then some (st ++ [tru]) else none from by rw [← HR.out, HR2.out, popC_none hN]; rfl)
        have HW2 := Lib.hid hW2
        have HBT := Lib.hid hbt
        clear hN hW2 hbt
        go_wp2_with fail
        go_meet
        case rel => exact ⟨eb, false, v2, st, rfl, rfl, (((But.refl _ w).alloc _).alloc _).trans_ HBT.out (fun _ _ c => c), HW2.out, hst, E.out⟩
      · have E := Lib.hid (show R = if true && eb then some (st0 ++ [tru]) else none from by rw [← HR.out, HR2.out, e1, popC_some e2 e3])
        have hl0 : st0.length ≤ 1024 := by have := congrArg List.length e1; rw [List.length_append] at this; omega
        have HW2 := Lib.hid hW2
        have HBT := Lib.hid hbt
        clear e1 e2 e3 hL hW2 hbt
        go_wp2_with fail
        go_meet
        case rel => exact ⟨eb, true, v2, st0, rfl, rfl, (((But.refl _ w).alloc _).alloc _).trans_ HBT.out (fun _ _ c => c), HW2.out, hl0, E.out⟩
    · have HR2 := Lib.hid (show stepC st 7 tx = (match popC st 2 false with | some (s, l) => if true && eb then some (s ++ [tru]) else none | none => none) from by rw [← HEB.out]; rfl)
      go_wp2_with fail
      refine (takes0 g st v (w.heap.size + 1) 2 false _ (HW.out.new (((But.refl No w).alloc _).alloc _)) hst (by decide) (by decide) (by omega) (by simp) (bools2 _ false (by simp))).mono ?_
      rintro e w2 ⟨hbt, h2⟩
      rcases h2 with ⟨rfl, ⟨v2, hW2⟩, hN⟩ | ⟨st0, l, vl, v2, e1, e2, e3, rfl, hL, hW2⟩
      · have E := Lib.hid (show R = if false && eb then some (st ++ [tru]) else none from by rw [← HR.out, HR2.out, popC_none hN]; rfl)
        have HW2 := Lib.hid hW2
        have HBT := Lib.hid hbt
        clear hN hW2 hbt
        go_wp2_with fail
        go_meet
        case rel => exact ⟨eb, false, v2, st, rfl, rfl, (((But.refl _ w).alloc _).alloc _).trans_ HBT.out (fun _ _ c => c), HW2.out, hst, E.out⟩
      · have E := Lib.hid (show R = if true && eb then some (st0 ++ [tru]) else none from by rw [← HR.out, HR2.out, e1, popC_some e2 e3])
        have hl0 : st0.length ≤ 1024 := by have := congrArg List.length e1; rw [List.length_append] at this; omega
        have HW2 := Lib.hid hW2
        have HBT := Lib.hid hbt
        clear e1 e2 e3 hL hW2 hbt
        go_wp2_with fail
        go_meet
        case rel => exact ⟨eb, true, v2, st0, rfl, rfl, (((But.refl _ w).alloc _).alloc _).trans_ HBT.out (fun _ _ c => c), HW2.out, hl0, E.out⟩
    · have HR2 := Lib.hid (show stepC st 8 tx = (match popC st 2 false with | some (s, l) => if true && eb then some (s ++ [tru]) else none | none => none) from by rw [← HEB.out]; rfl)
      go_wp2_with fail
      refine (takes0 g st v (w.heap.size + 1) 2 false _ (HW.out.new (((But.refl No w).alloc _).alloc _)) hst (by decide) (by decide) (by omega) (by simp) (bools2 _ false (by simp))).mono ?_
      rintro e w2 ⟨hbt, h2⟩
      rcases h2 with ⟨rfl, ⟨v2, hW2⟩, hN⟩ | ⟨st0, l, vl, v2, e1, e2, e3, rfl, hL, hW2⟩
      · have E := Lib.hid (show R = if false && eb then some (st ++ [tru]) else none from by rw [← HR.out, HR2.out, popC_none hN]; rfl)
        have HW2 := Lib.hid hW2
        have HBT := Lib.hid hbt
        clear hN hW2 hbt
        go_wp2_with fail
        go_meet
        case rel => exact ⟨eb, false, v2, st, rfl, rfl, (((But.refl _ w).alloc _).alloc _).trans_ HBT.out (fun _ _ c => c), HW2.out, hst, E.out⟩
      · have E := Lib.hid (show R = if true && eb then some (st0 ++ [tru]) else none from by rw [← HR.out, HR2.out, e1, popC_some e2 e3])
        have hl0 : st0.length ≤ 1024 := by have := congrArg List.length e1; rw [List.length_append] at this; omega
        have HW2 := Lib.hid hW2
        have HBT := Lib.hid hbt
        clear e1 e2 e3 hL hW2 hbt
        go_wp2_with fail
        go_meet
        case rel => exact ⟨eb, true, v2, st0, rfl, rfl, (((But.refl _ w).alloc _).alloc _).trans_ HBT.out (fun _ _ c => c), HW2.out, hl0, E.out⟩
    · have HR2 := Lib.hid (show stepC st 9 tx = (match popC st 2 false with | some (s, l) => if (match l[1]? with | some q => q.lit && (checkRes q.text).2 == 0 | none => false) && eb then some (s ++ [tru]) else none | none => none) from by rw [← HEB.out]; rfl)
      go_wp2_with fail
      refine (takes0 g st v (w.heap.size + 1) 2 false _ (HW.out.new (((But.refl No w).alloc _).alloc _)) hst (by decide) (by decide) (by omega) (by simp) (bools2 _ false (by simp))).mono ?_
      rintro e w2 ⟨hbt, h2⟩
      rcases h2 with ⟨rfl, ⟨v2, hW2⟩, hN⟩ | ⟨st0, l, vl, v2, e1, e2, e3, rfl, ⟨lb, lc, rfl, hL⟩, hW2⟩
      · have E := Lib.hid (show R = if false && eb then some (st ++ [tru]) else none from by rw [← HR.out, HR2.out, popC_none hN]; rfl)
        have HW2 := Lib.hid hW2
        have HBT := Lib.hid hbt
        clear hN hW2 hbt
        go_wp2_with fail
        go_meet
        case rel => exact ⟨eb, false, v2, st, rfl, rfl, (((But.refl _ w).alloc _).alloc _).trans_ HBT.out (fun _ _ c => c), HW2.out, hst, E.out⟩
      · have hl0 : st0.length ≤ 1024 := by have := congrArg List.length e1; rw [List.length_append] at this; omega
        have h1 : l[1]? = some l[1] := List.getElem?_eq_getElem (by omega)
        obtain ⟨q, hq⟩ : ∃ q, l[1] = q := ⟨_, rfl⟩
        rw [hq] at h1
        have hE := fun (b : Bool) (hb : (q.lit && (checkRes q.text).2 == 0) = b) => show R = if b && eb then some (st0 ++ [tru]) else none from by rw [← HR.out, HR2.out, e1, popC_some e2 e3]; simp only [h1, hb]
        have hqs : q.text.size ≤ 1024 := HST.out q (by rw [e1]; exact List.mem_append_right _ (List.mem_of_getElem? h1))
        obtain ⟨-, c2, c3⟩ := hL 1 q h1
        rw [show l.length = 2 from e2]
        have HW2 := Lib.hid hW2
        have HBT := Lib.hid hbt
        have HE := Lib.hid hE
        obtain ⟨tq, htq⟩ : ∃ tq, q.text = tq := ⟨_, rfl⟩
        obtain ⟨lq, hlq⟩ : ∃ lq, q.lit = lq := ⟨_, rfl⟩
        rw [htq] at c3 hqs
        rw [hlq] at c2
        have HTQ := Lib.hid htq
        have HLQ := Lib.hid hlq
        clear e1 e2 e3 hL hW2 hbt h1 hq hE htq hlq
        cases lq with
        | false =>
          have E := Lib.hid (HE.out false (by rw [HLQ.out]; rfl))
          go_wp2_with fail
          go_meet
          case rel => exact ⟨eb, false, v2, st0, rfl, rfl, (((But.refl _ w).alloc _).alloc _).trans_ HBT.out (fun _ _ c => c), HW2.out, hl0, E.out⟩
        | true =>
          have E := Lib.hid (HE.out ((checkRes tq).2 == 0) (by rw [HLQ.out, HTQ.out]; rfl))
          obtain ⟨ce, hce⟩ : ∃ ce : Int, (checkRes tq).2 = ce := ⟨_, rfl⟩
          have hck := fun w3 => check0 tq w3 (by omega)
          rw [hce] at hck
          have HCK := Lib.hid hck
          have HCE := Lib.hid hce
          clear hck hce
          go_wp2_with (go_at_call 66; refine (HCK.out _).mono ?_; rintro e w3 ⟨rfl, hb3⟩)
          go_meet
          case rel => exact ⟨eb, _, v2, st0, rfl, rfl, ((((But.refl _ w).alloc _).alloc _).trans_ HBT.out (fun _ _ c => c)).trans_ hb3 (fun _ _ c => c.elim), HW2.out.new hb3, hl0, by rw [E.out, HCE.out]⟩
    · have HR2 := Lib.hid (show stepC st 10 tx = (match popC st 2 false with | some (s, l) => if (match l[1]? with | some q => q.lit && (checkRes q.text).2 == 0 | none => false) && eb then some (s ++ [tru]) else none | none => none) from by rw [← HEB.out]; rfl)
      go_wp2_with fail
      refine (takes0 g st v (w.heap.size + 1) 2 false _ (HW.out.new (((But.refl No w).alloc _).alloc _)) hst (by decide) (by decide) (by omega) (by simp) (bools2 _ false (by simp))).mono ?_
      rintro e w2 ⟨hbt, h2⟩
      rcases h2 with ⟨rfl, ⟨v2, hW2⟩, hN⟩ | ⟨st0, l, vl, v2, e1, e2, e3, rfl, ⟨lb, lc, rfl, hL⟩, hW2⟩
      · have E := Lib.hid (show R = if false && eb then some (st ++ [tru]) else none from by rw [← HR.out, HR2.out, popC_none hN]; rfl)
        have HW2 := Lib.hid hW2
        have HBT := Lib.hid hbt
        clear hN hW2 hbt
        go_wp2_with fail
        go_meet
        case rel => exact ⟨eb, false, v2, st, rfl, rfl, (((But.refl _ w).alloc _).alloc _).trans_ HBT.out (fun _ _ c => c), HW2.out, hst, E.out⟩
      · have hl0 : st0.length ≤ 1024 := by have := congrArg List.length e1; rw [List.length_append] at this; omega
        have h1 : l[1]? = some l[1] := List.getElem?_eq_getElem (by omega)
        obtain ⟨q, hq⟩ : ∃ q, l[1] = q := ⟨_, rfl⟩
        rw [hq] at h1
        have hE := fun (b : Bool) (hb : (q.lit && (checkRes q.text).2 == 0) = b) => show R = if b && eb then some (st0 ++ [tru]) else none from by rw [← HR.out, HR2.out, e1, popC_some e2 e3]; simp only [h1, hb]
        have hqs : q.text.size ≤ 1024 := HST.out q (by rw [e1]; exact List.mem_append_right _ (List.mem_of_getElem? h1))
        obtain ⟨-, c2, c3⟩ := hL 1 q h1
        rw [show l.length = 2 from e2]
        have HW2 := Lib.hid hW2
        have HBT := Lib.hid hbt
        have HE := Lib.hid hE
        obtain ⟨tq, htq⟩ : ∃ tq, q.text = tq := ⟨_, rfl⟩
        obtain ⟨lq, hlq⟩ : ∃ lq, q.lit = lq := ⟨_, rfl⟩
        rw [htq] at c3 hqs
        rw [hlq] at c2
        have HTQ := Lib.hid htq
        have HLQ := Lib.hid hlq
        clear e1 e2 e3 hL hW2 hbt h1 hq hE htq hlq
        cases lq with
        | false =>
          have E := Lib.hid (HE.out false (by rw [HLQ.out]; rfl))
          go_wp2_with fail
          go_meet
          case rel => exact ⟨eb, false, v2, st0, rfl, rfl, (((But.refl _ w).alloc _).alloc _).trans_ HBT.out (fun _ _ c => c), HW2.out, hl0, E.out⟩
        | true =>
          have E := Lib.hid (HE.out ((checkRes tq).2 == 0) (by rw [HLQ.out, HTQ.out]; rfl))
          obtain ⟨ce, hce⟩ : ∃ ce : Int, (checkRes tq).2 = ce := ⟨_, rfl⟩
          have hck := fun w3 => check0 tq w3 (by omega)
          rw [hce] at hck
          have HCK := Lib.hid hck
          have HCE := Lib.hid hce
          clear hck hce
          go_wp2_with (go_at_call 66; refine (HCK.out _).mono ?_; rintro e w3 ⟨rfl, hb3⟩)
          go_meet
          case rel => exact ⟨eb, _, v2, st0, rfl, rfl, ((((But.refl _ w).alloc _).alloc _).trans_ HBT.out (fun _ _ c => c)).trans_ hb3 (fun _ _ c => c.elim), HW2.out.new hb3, hl0, by rw [E.out, HCE.out]⟩
    · have HR2 := Lib.hid (show stepC st 11 tx = (match popC st 1 true with | some (s, l) => if true && eb then some (s ++ [tru]) else none | none => none) from by rw [← HEB.out]; rfl)
      go_wp2_with fail
      refine (takes0 g st v (w.heap.size + 1) 1 true _ (HW.out.new (((But.refl No w).alloc _).alloc _)) hst (by decide) (by decide) (by omega) (by simp) (bools1 _ true (by simp))).mono ?_
      rintro e w2 ⟨hbt, h2⟩
      rcases h2 with ⟨rfl, ⟨v2, hW2⟩, hN⟩ | ⟨st0, l, vl, v2, e1, e2, e3, rfl, hL, hW2⟩
      · have E := Lib.hid (show R = if false && eb then some (st ++ [tru]) else none from by rw [← HR.out, HR2.out, popC_none hN]; rfl)
        have HW2 := Lib.hid hW2
        have HBT := Lib.hid hbt
        clear hN hW2 hbt
        go_wp2_with fail
        go_meet
        case rel => exact ⟨eb, false, v2, st, rfl, rfl, (((But.refl _ w).alloc _).alloc _).trans_ HBT.out (fun _ _ c => c), HW2.out, hst, E.out⟩
      · have E := Lib.hid (show R = if true && eb then some (st0 ++ [tru]) else none from by rw [← HR.out, HR2.out, e1, popC_some e2 e3])
        have hl0 : st0.length ≤ 1024 := by have := congrArg List.length e1; rw [List.length_append] at this; omega
        have HW2 := Lib.hid hW2
        have HBT := Lib.hid hbt
        clear e1 e2 e3 hL hW2 hbt
        go_wp2_with fail
        go_meet
        case rel => exact ⟨eb, true, v2, st0, rfl, rfl, (((But.refl _ w).alloc _).alloc _).trans_ HBT.out (fun _ _ c => c), HW2.out, hl0, E.out⟩
    · have HR2 := Lib.hid (show stepC st 12 tx = (match popC st 2 true with | some (s, l) => if true && eb then some (s ++ [tru]) else none | none => none) from by rw [← HEB.out]; rfl)
      go_wp2_with fail
      refine (takes0 g st v (w.heap.size + 1) 2 true _ (HW.out.new (((But.refl No w).alloc _).alloc _)) hst (by decide) (by decide) (by omega) (by simp) (bools2 _ true (by simp))).mono ?_
      rintro e w2 ⟨hbt, h2⟩
      rcases h2 with ⟨rfl, ⟨v2, hW2⟩, hN⟩ | ⟨st0, l, vl, v2, e1, e2, e3, rfl, hL, hW2⟩
      · have E := Lib.hid (show R = if false && eb then some (st ++ [tru]) else none from by rw [← HR.out, HR2.out, popC_none hN]; rfl)
        have HW2 := Lib.hid hW2
        have HBT := Lib.hid hbt
        clear hN hW2 hbt
        go_wp2_with fail
        go_meet
        case rel => exact ⟨eb, false, v2, st, rfl, rfl, (((But.refl _ w).alloc _).alloc _).trans_ HBT.out (fun _ _ c => c), HW2.out, hst, E.out⟩
      · have E := Lib.hid (show R = if true && eb then some (st0 ++ [tru]) else none from by rw [← HR.out, HR2.out, e1, popC_some e2 e3])
        have hl0 : st0.length ≤ 1024 := by have := congrArg List.length e1; rw [List.length_append] at this; omega
        have HW2 := Lib.hid hW2
        have HBT := Lib.hid hbt
        clear e1 e2 e3 hL hW2 hbt
        go_wp2_with fail
        go_meet
        case rel => exact ⟨eb, true, v2, st0, rfl, rfl, (((But.refl _ w).alloc _).alloc _).trans_ HBT.out (fun _ _ c => c), HW2.out, hl0, E.out⟩
    · have HR2 := Lib.hid (show stepC st 13 tx = (match popC st 2 true with | some (s, l) => if true && eb then some (s ++ [tru]) else none | none => none) from by rw [← HEB.out]; rfl)
      go_wp2_with fail
      refine (takes0 g st v (w.heap.size + 1) 2 true _ (HW.out.new (((But.refl No w).alloc _).alloc _)) hst (by decide) (by decide) (by omega) (by simp) (bools2 _ true (by simp))).mono ?_
      rintro e w2 ⟨hbt, h2⟩
      rcases h2 with ⟨rfl, ⟨v2, hW2⟩, hN⟩ | ⟨st0, l, vl, v2, e1, e2, e3, rfl, hL, hW2⟩
      · have E := Lib.hid (show R = if false && eb then some (st ++ [tru]) else none from by rw [← HR.out, HR2.out, popC_none hN]; rfl)
        have HW2 := Lib.hid hW2
        have HBT := Lib.hid hbt
        clear hN hW2 hbt
        go_wp2_with fail
        go_meet
        case rel => exact ⟨eb, false, v2, st, rfl, rfl, (((But.refl _ w).alloc _).alloc _).trans_ HBT.out (fun _ _ c => c), HW2.out, hst, E.out⟩
      · have E := Lib.hid (show R = if true && eb then some (st0 ++ [tru]) else none from by rw [← HR.out, HR2.out, e1, popC_some e2 e3])
        have hl0 : st0.length ≤ 1024 := by have := congrArg List.length e1; rw [List.length_append] at this; omega
        have HW2 := Lib.hid hW2
        have HBT := Lib.hid hbt
        clear e1 e2 e3 hL hW2 hbt
        go_wp2_with fail
        go_meet
        case rel => exact ⟨eb, true, v2, st0, rfl, rfl, (((But.refl _ w).alloc _).alloc _).trans_ HBT.out (fun _ _ c => c), HW2.out, hl0, E.out⟩
    · have k1 : (k == 1) = false := by simp; omega
      have k2 : (k == 2) = false := by simp; omega
      have k3 : (k == 3) = false := by simp; omega
      have k4 : (k == 4) = false := by simp; omega
      have k5 : (k == 5) = false := by simp; omega
      have k6 : (k == 6) = false := by simp; omega
      have k7 : (k == 7) = false := by simp; omega
      have k8 : (k == 8) = false := by simp; omega
      have k9 : (k == 9) = false := by simp; omega
      have k10 : (k == 10) = false := by simp; omega
      have k11 : (k == 11) = false := by simp; omega
      have k12 : (k == 12) = false := by simp; omega
      have k13 : (k == 13) = false := by simp; omega
      have E := Lib.hid (show R = if false && eb then some (st ++ [tru]) else none from by
        rw [← HR.out]
        unfold stepC
        simp only []
        rw [if_neg (by omega), if_neg (by omega), if_neg (by omega), if_neg (by omega), if_neg (by omega), if_neg (by omega), if_neg (by omega), if_neg (by omega), if_neg (by omega)]
        rfl)
      clear hk
      go_wp2_with fail
      go_meet
      case rel => exact ⟨eb, false, v, st, rfl, rfl, (But.refl _ w).alloc _, HW.out.new ((But.refl No w).alloc _), hst, E.out⟩
  case rest =>
    obtain ⟨bare, ok, v1, st1, rfl, rfl, hb1, hW1, hl1, hR1⟩ := hcut
    have HR1 := Lib.hid hR1
    have hc1 := hW1.cell
    have hf1 := hW1.free 0
    have hz := hW1.lt
    have HO := Lib.hid hW1.2
    have HW := Lib.hid hW1
    have HB := Lib.hid hb1
    clear hR1 hW1 hb1 h
    cases ok <;> cases bare
    all_goals
      go_wp2_with (refine prE.append1 rfl _ _ rfl rfl (g + 1) v1 st1 rfl (HO.out.alloc _) wc.heap.size tru #[.bool true, .bool false, .string mt] rfl rfl (heap_alloc_new _ _) (by show (st1.length + 1) * (24 + 1) ≤ _; omega) (by simp; omega) ?_; intro g2 c2 w1 hown hgrow; (have hq := (HW.out.new ((But.refl No wc).alloc _)).grow hgrow); (have hq1 := cell_of_row w1 g 0 _ _ _ hq.1); (have hq2 := blkfree hq.1 0); (have HQ := Lib.hid hq); (have HP := Lib.hid (Wk.put2 hq.1 hown)); clear hq hgrow hown)
      go_ret
      refine ⟨((HB.out.alloc _).trans HQ.out.2).setCell (p := ⟨g, 0, none⟩) (.inl (Nat.le_refl g)) _, ?_⟩
      rw [HR1.out]
      first | rfl | exact ⟨rfl, _, HP.out⟩
end Go.Proofs.Ytinhlaiogkmkfaa.G
end
section
/- expr.Check: the walk. -/
namespace Go.Proofs.Ytinhlaiogkmkfaa.G
open Go.RowKit
attribute [local simp, local go_sem] alloc_drewN setCell_drewN
set_option linter.unusedVariables false
set_option linter.unusedSimpArgs false
set_option maxRecDepth 100000
def runC : List (Int × ByteArray) → List Prt → Option (List Prt)
  | [], st => some st
  | q :: r, st => (stepC st q.1 q.2).bind (runC r)
def rootC : Option (List Prt) → Bool
  | some [q] => q.truth
  | _ => false
def checkB (t : List (Int × ByteArray)) : Bool := decide (t.length ≤ 1024) && rootC (runC t [])
theorem popC_parts {st s l : List Prt} {k : Nat} {t : Bool} (h : popC st k t = some (s, l)) : st = s ++ l ∧ l.length = k ∧ ∀ q ∈ l, q.truth = t := by
  unfold popC at h
  split at h
  · cases h
  · split at h
    · rename_i h1 h2
      simp only [Option.some.injEq, Prod.mk.injEq] at h
      obtain ⟨rfl, rfl⟩ := h
      refine ⟨(List.take_append_drop _ _).symm, by simp; omega, fun q hq => ?_⟩
      have := List.all_eq_true.1 h2 q hq
      simpa using this
    · cases h
/-- A step lengthens the stack by at most one, and keeps its texts short. -/
def Small (n : Nat) (st : List Prt) : Prop := st.length ≤ n ∧ ∀ q ∈ st, q.text.size ≤ 1024
theorem Small.push {n : Nat} {st : List Prt} (h : Small n st) (q : Prt) (hq : q.text.size ≤ 1024) : Small (n + 1) (st ++ [q]) := by
  refine ⟨by simp; exact h.1, fun x hx => ?_⟩
  rcases List.mem_append.1 hx with h1 | h1
  · exact h.2 x h1
  · rw [List.mem_singleton.1 h1]; exact hq
theorem Small.popped {n : Nat} {st s l : List Prt} {k : Nat} {t : Bool} (h : Small n st) (hp : popC st k t = some (s, l)) : Small n s := by
  obtain ⟨rfl, _, _⟩ := popC_parts hp
  have := h.1
  rw [List.length_append] at this
  exact ⟨by omega, fun x hx => h.2 x (List.mem_append_left _ hx)⟩
theorem mt_small : mt.size ≤ 1024 := by decide
theorem stepC_small {n : Nat} {st st' : List Prt} {k : Int} {tx : ByteArray} (h : Small n st) (hs : stepC st k tx = some st') : Small (n + 1) st' := by
  have pop : ∀ {m : Nat} {t : Bool} {ok : List Prt → Bool}, (match popC st m t with | some (s, l) => if ok l && tx.toList.isEmpty then some (s ++ [tru]) else none | none => none) = some st' → Small (n + 1) st' := by
    intro m t ok e
    split at e
    · rename_i s l hp
      split at e
      · injection e with e
        subst e
        exact (h.popped hp).push _ mt_small
      · cases e
    · cases e
  have lift : ∀ {b : Bool} {q : Prt}, (if b then some (st ++ [q]) else none) = some st' → q.text.size ≤ 1024 → Small (n + 1) st' := by
    intro b q e hq
    split at e
    · injection e with e
      subst e
      exact h.push _ hq
    · cases e
  unfold stepC at hs
  simp only [] at hs
  split at hs
  · split at hs
    · rename_i h1
      injection hs with hs
      subst hs
      exact h.push _ h1
    · cases hs
  split at hs
  · exact lift hs mt_small
  split at hs
  · exact lift hs mt_small
  split at hs
  · exact lift hs mt_small
  split at hs
  · exact pop (ok := fun _ => true) hs
  split at hs
  · exact pop (ok := fun _ => true) hs
  split at hs
  · exact pop (ok := fun l => match l[1]? with | some q => q.lit && (checkRes q.text).2 == 0 | none => false) hs
  split at hs
  · exact pop (ok := fun _ => true) hs
  split at hs
  · exact pop (ok := fun _ => true) hs
  · cases hs
/-- Steps that come in. -/
def StepsIn (w : World) (A : Option Addr) (t : List (Int × ByteArray)) : Prop := ∀ i (hi : i < t.length), ∃ ad, A = some ad ∧ w.cell? (ad.add (i * 2)) = some (.int .i64 t[i].1) ∧ w.cell? ⟨(ad.add (i * 2)).block, (ad.add (i * 2)).off + 1, none⟩ = some (.string t[i].2)
def CheckAt (w : World) (t : List (Int × ByteArray)) (F : Option (List Prt)) (gk : Nat) (v13 : Value) (wr : World) : Prop :=
  ∃ (i : Nat) (st : List Prt) (v : Value), gk = t.length - i ∧ i ≤ t.length ∧ v13 = .int .i64 (i : Int) ∧ But (Ge w.heap.size) w wr ∧ Wk wr w.heap.size v st ∧ Small i st ∧ runC (t.drop i) st = F
set_option maxHeartbeats 8000000 in
theorem exprCheck0 (A : Option Addr) (c : Nat) (t : List (Int × ByteArray)) (w : World) (hT : StepsIn w A t) (hc : t.length ≤ 9223372036854775807) (hsz : ∀ q ∈ t, q.2.size ≤ 9223372036854775807) (B : Bool) (hB : checkB t = B) :
    Calls Try.prog 28 #[.slice A t.length c] w fun e w' => e = .returned (.bool B) ∧ Below w.heap.size w w' := by
  have hc2 : t.length ≤ 9223372036854775807 := by omega
  by_cases h1 : 1024 < t.length
  · have E := Lib.hid (show B = false from by rw [← hB]; unfold checkB; rw [decide_eq_false (by omega)]; rfl)
    have h1' : (1024 : Int) < (t.length : Int) := by omega
    have d1 : decide ((1024 : Int) < (t.length : Int)) = true := by simp; omega
    go_enter Try.func28, Try.ntmps28
    go_wp2_with fail
    go_ret
    exact ⟨by rw [E.out]; rfl, Below.refl _ _⟩
  · have h1' : ¬ (1024 : Int) < (t.length : Int) := by omega
    have d1 : decide ((1024 : Int) < (t.length : Int)) = false := by simp; omega
    obtain ⟨F, hF⟩ : ∃ F, runC t [] = F := ⟨_, rfl⟩
    have HF := Lib.hid hF
    have HB := Lib.hid (show B = rootC F from by rw [← hB, ← hF]; unfold checkB; rw [decide_eq_true (by omega)]; rfl)
    have HT := Lib.hid hT
    have HS := Lib.hid hsz
    clear hF hB hT hsz
    have bel : ∀ w' : World, But (Ge w.heap.size) w w' → Below w.heap.size w w' := fun _ h => h.below (fun b hb c => Nat.not_lt.2 c hb)
    have BEL := Lib.hid bel
    clear bel
    go_enter Try.func28, Try.ntmps28
    go_wp2_with fail
    go_loopg [13] t.length (fun gk v13 wr => CheckAt w t F gk v13 wr)
    case atStart => exact ⟨0, [], .slice none 0 0, rfl, Nat.zero_le _, rfl, (But.refl _ w).alloc _, ⟨heap_alloc_new w _, El.own_nil _ _⟩, ⟨Nat.le_refl _, fun q h => by cases h⟩, HF.out⟩
    case round =>
      obtain ⟨i, st, v, hgk, hi, rfl, hb, hW, hSm, hR⟩ := hrel
      have HGK := Lib.hid hgk
      have HR := Lib.hid hR
      have HW := Lib.hid hW
      have HBt := Lib.hid hb
      have HSm := Lib.hid hSm
      have hgc := hW.cell
      clear hgk hR hW hb hSm
      by_cases hlt : i < t.length
      · obtain ⟨ad, hA, k1, k2⟩ := HT.out i hlt
        have k3 := HS.out t[i] (List.getElem_mem hlt)
        have hd : t.drop i = t[i] :: t.drop (i + 1) := List.drop_eq_getElem_cons hlt
        cases hA
        have k1' := HBt.out.cell_some k1 (Nat.not_le.2 (World.block_lt_of_cell? w _ k1))
        have k2' := HBt.out.cell_some k2 (Nat.not_le.2 (World.block_lt_of_cell? w _ k2))
        have hlt' : (i : Int) < (t.length : Int) := by omega
        have dl : decide ((i : Int) < (t.length : Int)) = true := by simp; omega
        obtain ⟨⟨kk, tx⟩, hq⟩ : ∃ q, t[i] = q := ⟨_, rfl⟩
        rw [hq] at k1' k2' k3 hd
        obtain ⟨R, hRR⟩ : ∃ R, stepC st kk tx = R := ⟨_, rfl⟩
        have HRR := Lib.hid hRR
        have HN := Lib.hid (show runC (t.drop i) st = R.bind (runC (t.drop (i + 1))) from by rw [hd, ← hRR]; rfl)
        have hst : st.length ≤ 1024 := by have := HSm.out.1; omega
        clear k1 k2 hq hd hRR
        go_wp2_with fail
        refine (wstep0 w.heap.size st v kk tx _ (HW.out.new ((But.refl No wr).alloc _)) hst HSm.out.2 k3 R HRR.out).mono ?_
        rintro e w1 ⟨hb1, h2⟩
        have HB1 := Lib.hid (((HBt.out).alloc _).trans_ hb1 (fun _ _ c => c))
        cases R with
        | none =>
          obtain rfl := h2
          have E := Lib.hid (show B = false from by rw [HB.out, ← HR.out, HN.out]; rfl)
          clear hb1
          go_wp2_with fail
          go_ret
          exact ⟨by rw [E.out]; rfl, BEL.out _ HB1.out⟩
        | some st' =>
          obtain ⟨rfl, v', hW'⟩ := h2
          have HW' := Lib.hid hW'
          clear hb1 hW'
          go_wp2_with fail
          go_roundg (t.length - (i + 1))
          case measure => rw [HGK.out]; omega
          case rel => exact ⟨i + 1, st', v', rfl, by omega, by go_num, HB1.out, HW'.out, stepC_small HSm.out HRR.out, by rw [← HR.out, HN.out]; rfl⟩
      · obtain rfl : i = t.length := by omega
        have hlt' : ¬ (t.length : Int) < (t.length : Int) := by omega
        have HFF := Lib.hid (show F = some st from by rw [← HR.out, List.drop_length]; rfl)
        by_cases h1 : st.length = 1
        · obtain ⟨q, rfl⟩ := List.length_eq_one_iff.1 h1
          have E := Lib.hid (show B = q.truth from by rw [HB.out, HFF.out]; rfl)
          have hown := HW.out.2
          obtain ⟨gs, cs, rfl, -, -, -, -⟩ := hown.lit (by simp)
          have hq : wr.cell? ⟨gs, 0, none⟩ = some (.bool q.truth) := by simpa using hown.cell 0 q rfl 0 _ rfl
          simp only [List.length_singleton] at hgc
          clear hown h1
          go_wp2_with fail
          go_ret
          exact ⟨by rw [E.out]; rfl, BEL.out _ HBt.out⟩
        · have E := Lib.hid (show B = false from by
            rw [HB.out, HFF.out]
            match st, h1 with
            | [], _ => rfl
            | [q], h => exact absurd rfl h
            | q :: q' :: r, _ => rfl)
          obtain ⟨A', c', rfl⟩ := HW.out.2.slice
          have hl1 : ((st.length : Int) == 1) = false := by simp; omega
          clear h1
          go_wp2_with fail
          go_ret
          exact ⟨by rw [E.out]; rfl, BEL.out _ HBt.out⟩
end Go.Proofs.Ytinhlaiogkmkfaa.G
end
section
/- rule's run: its stack, push and pop. -/
namespace Go.Proofs.Ytinhlaiogkmkfaa.G
open Go.RowKit
attribute [local simp, local go_sem] alloc_drewN setCell_drewN
set_option linter.unusedVariables false
set_option linter.unusedSimpArgs false
set_option maxRecDepth 100000
/-- A text or a truth. -/
structure Vl where
  text : ByteArray
  ok : Bool
def vlE : El Try.prog 93 85 Vl where
  enc q := [.string q.text, .bool q.ok]
  sz := 2
  wd := 24
  zero := .agg #[.string ByteArray.empty, .bool false]
  hpos := by decide
  henc _ := rfl
  hone q u hu := by
    simp only [List.mem_cons, List.not_mem_nil, or_false] at hu
    rcases hu with rfl | rfl <;> rfl
  hi := by kernel_rfl
  hzs := rfl
  hu := Try.underlying85
/-- The run at block g: its variables, and its stack in the slice v, behind block B. -/
def Rn (w : World) (g B : Nat) (vv v : Value) (st : List Vl) : Prop := w.heap[g]? = some (.cells #[vv, v] 87 (0, 0)) ∧ vlE.Own w B v st ∧ g < B ∧ B ≤ w.heap.size
def Fr (g B : Nat) : Nat → Prop := fun k => k = g ∨ B ≤ k
section
variable {w w' W w1 : World} {g B : Nat} {vv v v' : Value} {st st' : List Vl}
theorem Rn.lt (h : Rn w g B vv v st) : g < w.heap.size := lt_of_block h.1
theorem Rn.cell0 (h : Rn w g B vv v st) : w.cell? ⟨g, 0, none⟩ = some vv := by
  rw [cell_of_row w g 0 _ _ _ h.1]
  rfl
theorem Rn.cell (h : Rn w g B vv v st) : w.cell? ⟨g, 1, none⟩ = some v := by
  rw [cell_of_row w g 1 _ _ _ h.1]
  rfl
theorem Rn.free (h : Rn w g B vv v st) (i : Nat) : w.frozen? ⟨g, i, none⟩ = false := blkfree h.1 i
theorem Rn.new (h : Rn w g B vv v st) (hb : But No w w') : Rn w' g B vv v st := ⟨(hb.block g h.lt (fun c => c)).trans h.1, h.2.1.new hb, h.2.2.1, Nat.le_trans h.2.2.2 hb.size⟩
theorem Rn.grow (h : Rn W g B vv v st) (hg : W.grownBy w1 v.ownBlock) : w1.heap[g]? = some (.cells #[vv, v] 87 (0, 0)) ∧ But (Fr g B) W w1 ∧ g < B ∧ B ≤ w1.heap.size := by
  refine ⟨(hg.block g h.lt ?_).trans h.1, (But.refl (Fr g B) W).grown hg (fun k hk => .inl (.inr (h.2.1.lt k hk).1)), h.2.2.1, Nat.le_trans h.2.2.2 hg.size⟩
  intro e
  have := (h.2.1.lt g e.symm).1
  have := h.2.2.1
  omega
theorem Rn.put2 (h : w1.heap[g]? = some (.cells #[vv, v] 87 (0, 0))) (ho : vlE.Own w1 B v' st') (hB : g < B) (hs : B ≤ w1.heap.size) : Rn (w1.setCell ⟨g, 1, none⟩ v') g B vv v' st' :=
  ⟨by rw [blkset h 1 v']; rfl, ho.set (p := ⟨g, 1, none⟩) hB _, hB, by simpa using hs⟩
end
def RnPost (w : World) (S : Nat → Prop) (g B : Nat) (vv : Value) (st : List Vl) (r : Value) (e : Ending) (w' : World) : Prop := e = .returned r ∧ But S w w' ∧ ∃ v, Rn w' g B vv v st
set_option maxHeartbeats 4000000 in
theorem push0 (g B : Nat) (vv v : Value) (st : List Vl) (tx : ByteArray) (ok : Bool) (w : World) (h : Rn w g B vv v st) (hst : st.length ≤ 100000) :
    Calls Try.prog 98 #[.pointer (some ⟨g, 0, none⟩), .agg #[.string tx, .bool ok]] w (RnPost w (Fr g B) g B vv (st ++ [⟨tx, ok⟩]) (.tuple #[])) := by
  have HW := Lib.hid h
  have hg0 := h.cell
  have hgf := h.free 1
  have hgl := h.lt
  have hne : ¬ w.heap.size = g := by omega
  clear h
  go_enter Try.func98, Try.ntmps98
  go_wp2_with fail
  go_region_law ((refine vlE.step1 rfl _ _ rfl rfl B v st rfl (HW.out.2.1.new ((((But.refl No w).alloc _).drew).alloc _)) (w.heap.size + 1) ⟨tx, ok⟩ #[.string tx, .bool ok] rfl rfl (heap_alloc2_new w _ _) (by show (st.length + 1) * (24 + 1) ≤ _; omega) (by have := HW.out.2.2.2; simp; omega) ?_; intro g2 c2 w1 hown hgrow; (have hq := (HW.out.new ((((But.refl No w).alloc _).drew).alloc _)).grow hgrow); (have hq1 : w1.cell? ⟨g, 1, none⟩ = some v := cell_of_row w1 g 1 _ _ _ hq.1); (have hq2 := blkfree hq.1 1); (have HQ := Lib.hid hq); (have HP := Lib.hid (Rn.put2 hq.1 hown hq.2.2.1 hq.2.2.2)); clear hq hgrow hown))
  all_goals
    go_wp2_with fail
    go_end0
    exact ⟨rfl, (((((But.refl _ w).alloc _).drew).alloc _).trans HQ.out.2.1).setCell (p := ⟨g, 1, none⟩) (.inl (.inl rfl)) _, _, HP.out⟩
set_option maxHeartbeats 4000000 in
theorem pop0 (g B : Nat) (vv v : Value) (s : List Vl) (q : Vl) (w : World) (h : Rn w g B vv v (s ++ [q])) (hst : s.length ≤ 100000) :
    Calls Try.prog 54 #[.pointer (some ⟨g, 0, none⟩)] w (RnPost w (One g) g B vv s (.agg #[.string q.text, .bool q.ok])) := by
  obtain ⟨gs, c, rfl, hgs, hgsl, hcap, hmx⟩ := h.2.1.lit (by simp)
  have HW := Lib.hid h
  have hg0 := h.cell
  have hgf := h.free 1
  have hgl := h.lt
  have k1 := h.2.1.cell s.length q (by simp) 0 _ rfl
  have k2 := h.2.1.cell s.length q (by simp) 1 _ rfl
  have hsh := h.2.1.shrink
  have HSH := Lib.hid hsh
  rw [List.length_append, List.length_singleton] at hg0 hcap
  obtain ⟨n, hn⟩ : ∃ n, s.length = n := ⟨_, rfl⟩
  rw [hn] at hg0 hcap hst k1 k2
  have HN := Lib.hid hn
  have hE : vlE.sz = 2 := rfl
  rw [hE] at k1 k2
  rw [Nat.add_zero] at k1
  clear hE h hsh hn
  have hne : ¬ w.heap.size = g := by omega
  have hne2 : ¬ w.heap.size + 1 = g := by omega
  have hc1 : n ≤ c := by omega
  go_enter Try.func54, Try.ntmps54
  go_wp2_with fail
  go_region
  all_goals
    go_wp2_with fail
    go_region
  all_goals
    go_wp2_with fail
    refine bodyPost_ret (v := .agg #[.string q.text, .bool q.ok]) (by simp [results, Try.results54, go_sem]) rfl ⟨rfl, ?_, .slice (some ⟨gs, 0, none⟩) n c, ?_⟩
    · exact ((((((But.refl (One g) w).set1 1 _).alloc _).alloc _).drew).drew)
    · have h1 : Rn (w.setCell ⟨g, 1, none⟩ (.slice (some ⟨gs, 0, none⟩) n c)) g B vv (.slice (some ⟨gs, 0, none⟩) n c) s := Rn.put2 HW.out.1 (by rw [← HN.out]; exact HSH.out) HW.out.2.2.1 HW.out.2.2.2
      exact h1.new (((((But.refl No _).alloc _).alloc _).drew).drew)
end Go.Proofs.Ytinhlaiogkmkfaa.G
end
section
/- rule's run: variables, and what each kind of step does. -/
namespace Go.Proofs.Ytinhlaiogkmkfaa.G
open Go.RowKit
attribute [local simp, local go_sem] alloc_drewN setCell_drewN
set_option linter.unusedVariables false
set_option linter.unusedSimpArgs false
set_option maxRecDepth 100000
def getV : List (ByteArray × ByteArray) → ByteArray → Option ByteArray
  | [], _ => none
  | p :: r, name => if p.1.toList == name.toList then some p.2 else getV r name
def getT (vs : List (ByteArray × ByteArray)) (name : ByteArray) : ByteArray := (getV vs name).getD mt
def getB (vs : List (ByteArray × ByteArray)) (name : ByteArray) : Bool := (getV vs name).isSome
/-- Variables that come in. -/
def VarsIn (w : World) (A : Option Addr) (t : List (ByteArray × ByteArray)) : Prop := ∀ i (hi : i < t.length), ∃ ad, A = some ad ∧ w.cell? (ad.add (i * 2)) = some (.string t[i].1) ∧ w.cell? ⟨(ad.add (i * 2)).block, (ad.add (i * 2)).off + 1, none⟩ = some (.string t[i].2)
theorem VarsIn.later {w w' : World} {A : Option Addr} {t : List (ByteArray × ByteArray)} {S : Nat → Prop} (h : VarsIn w A t) (hb : But S w w') (hS : ∀ k, k < w.heap.size → ¬ S k) : VarsIn w' A t := by
  intro i hi
  obtain ⟨ad, e, h1, h2⟩ := h i hi
  exact ⟨ad, e, hb.cell_some h1 (hS _ (World.block_lt_of_cell? w _ h1)), hb.cell_some h2 (hS _ (World.block_lt_of_cell? w _ h2))⟩
def GetAt (w : World) (t : List (ByteArray × ByteArray)) (name : ByteArray) (F : Option ByteArray) (gk : Nat) (v10 : Value) (wr : World) : Prop :=
  ∃ i : Nat, gk = t.length - i ∧ i ≤ t.length ∧ v10 = .int .i64 (i : Int) ∧ But No w wr ∧ getV (t.drop i) name = F
set_option maxHeartbeats 4000000 in
theorem varsGet0 (A : Option Addr) (c : Nat) (t : List (ByteArray × ByteArray)) (name : ByteArray) (w : World) (hT : VarsIn w A t) (hc : t.length ≤ 9223372036854775807) :
    Calls Try.prog 63 #[.slice A t.length c, .string name] w fun e w' => e = .returned (.tuple #[.string (getT t name), .bool (getB t name)]) ∧ But No w w' := by
  have hc2 : t.length ≤ 9223372036854775807 := by omega
  obtain ⟨F, hF⟩ : ∃ F, getV t name = F := ⟨_, rfl⟩
  have HF := Lib.hid hF
  have HT := Lib.hid hT
  have H1 := Lib.hid (show getT t name = F.getD mt from by unfold getT; rw [hF])
  have H2 := Lib.hid (show getB t name = F.isSome from by unfold getB; rw [hF])
  clear hF hT
  go_enter Try.func63, Try.ntmps63
  go_wp2_with fail
  go_loopg [10] t.length (fun gk v10 wr => GetAt w t name F gk v10 wr)
  case atStart => exact ⟨0, rfl, Nat.zero_le _, rfl, But.refl _ _, HF.out⟩
  case round =>
    obtain ⟨i, hgk, hi, rfl, hb, hR⟩ := hrel
    have HGK := Lib.hid hgk
    have HR := Lib.hid hR
    have HBt := Lib.hid hb
    clear hgk hR hb
    by_cases hlt : i < t.length
    · obtain ⟨ad, hA, k1, k2⟩ := HT.out i hlt
      have hd : t.drop i = t[i] :: t.drop (i + 1) := List.drop_eq_getElem_cons hlt
      cases hA
      have k1' := HBt.out.cell_some k1 (fun c => c)
      have k2' := HBt.out.cell_some k2 (fun c => c)
      have hlt' : (i : Int) < (t.length : Int) := by omega
      have dl : decide ((i : Int) < (t.length : Int)) = true := by simp; omega
      obtain ⟨⟨nm, vl⟩, hq⟩ : ∃ q, t[i] = q := ⟨_, rfl⟩
      rw [hq] at k1' k2' hd
      clear k1 k2 hq
      cases he : (nm.toList == name.toList) with
      | true =>
        have HE := Lib.hid (show F = some vl from by rw [← HR.out, hd]; unfold getV; rw [if_pos he])
        go_wp2_with fail
        go_ret2
        exact ⟨by rw [H1.out, H2.out, HE.out]; rfl, HBt.out.alloc _⟩
      | false =>
        have HE := Lib.hid (show getV (t.drop (i + 1)) name = F from by rw [← HR.out, hd]; conv => rhs; unfold getV
                                                                        rw [if_neg (by rw [he]; simp)])
        go_wp2_with fail
        go_roundg (t.length - (i + 1))
        case measure => rw [HGK.out]; omega
        case rel => exact ⟨i + 1, rfl, by omega, by go_num, HBt.out.alloc _, HE.out⟩
    · obtain rfl : i = t.length := by omega
      have hlt' : ¬ (t.length : Int) < (t.length : Int) := by omega
      have HE := Lib.hid (show F = none from by rw [← HR.out, List.drop_length]; rfl)
      go_wp2_with fail
      go_ret2
      exact ⟨by rw [H1.out, H2.out, HE.out]; rfl, HBt.out⟩
theorem fieldV0 (x : ByteArray) (y : Bool) (w : World) : (Instr.field 93 (.agg #[.string x, .bool y]) 0).run Try.prog w = .ok (.string x) w := by kernel_rfl
theorem fieldV1 (x : ByteArray) (y : Bool) (w : World) : (Instr.field 93 (.agg #[.string x, .bool y]) 1).run Try.prog w = .ok (.bool y) w := by kernel_rfl
theorem fr_one {g B : Nat} : ∀ k, One g k → Fr g B k := fun _ h => .inl h
theorem xbox {w w1 : World} {g : Nat} {k : Int} {tx : ByteArray} (hb : But (One g) (w.alloc (.cells #[.int .i64 k, .string tx] 45)) w1) (hg : g < w.heap.size) : w1.cell? ⟨w.heap.size, 0, none⟩ = some (.int .i64 k) := by
  have h1 := hb.block w.heap.size (by simp) (fun c => by unfold One at c; omega)
  rw [heap_alloc_new] at h1
  rw [cell_of_row w1 _ 0 _ _ _ h1]
  rfl
set_option maxHeartbeats 4000000 in
theorem do_literal (g B : Nat) (vv v : Value) (s : List Vl) (k : Int) (tx : ByteArray) (w : World) (h : Rn w g B vv v s) (hst : s.length ≤ 10000) :
    Calls Try.prog 72 #[.pointer (some ⟨g, 0, none⟩), .agg #[.int .i64 k, .string tx]] w (RnPost w (Fr g B) g B vv (s ++ [⟨tx, false⟩]) (.tuple #[])) := by
  have HW := Lib.hid h
  have hgl := h.lt
  have hne : ¬ w.heap.size = g := by omega
  clear h
  go_enter Try.func72, Try.ntmps72
  go_wp2_with fail
  refine (push0 g B vv v s tx false _ (HW.out.new ((But.refl No w).alloc _)) (by omega)).mono ?_
  rintro e w1 ⟨rfl, hb, v', hR⟩
  go_wp2_with fail
  go_end0
  exact ⟨rfl, ((But.refl _ w).alloc _).trans hb, v', hR⟩
set_option maxHeartbeats 4000000 in
theorem do_true (g B : Nat) (vv v : Value) (s : List Vl) (tx : ByteArray) (w : World) (h : Rn w g B vv v s) (hst : s.length ≤ 10000) :
    Calls Try.prog 75 #[.pointer (some ⟨g, 0, none⟩), .agg #[.int .i64 4, .string tx]] w (RnPost w (Fr g B) g B vv (s ++ [⟨mt, true⟩]) (.tuple #[])) := by
  have HW := Lib.hid h
  have hgl := h.lt
  have hne : ¬ w.heap.size = g := by omega
  clear h
  go_enter Try.func75, Try.ntmps75
  go_wp2_with fail
  refine (push0 g B vv v s mt true _ (HW.out.new ((But.refl No w).alloc _)) (by omega)).mono ?_
  rintro e w1 ⟨rfl, hb, v', hR⟩
  go_wp2_with fail
  go_end0
  exact ⟨rfl, ((But.refl _ w).alloc _).trans hb, v', hR⟩
set_option maxHeartbeats 4000000 in
theorem do_false (g B : Nat) (vv v : Value) (s : List Vl) (tx : ByteArray) (w : World) (h : Rn w g B vv v s) (hst : s.length ≤ 10000) :
    Calls Try.prog 75 #[.pointer (some ⟨g, 0, none⟩), .agg #[.int .i64 5, .string tx]] w (RnPost w (Fr g B) g B vv (s ++ [⟨mt, false⟩]) (.tuple #[])) := by
  have HW := Lib.hid h
  have hgl := h.lt
  have hne : ¬ w.heap.size = g := by omega
  clear h
  go_enter Try.func75, Try.ntmps75
  go_wp2_with fail
  refine (push0 g B vv v s mt false _ (HW.out.new ((But.refl No w).alloc _)) (by omega)).mono ?_
  rintro e w1 ⟨rfl, hb, v', hR⟩
  go_wp2_with fail
  go_end0
  exact ⟨rfl, ((But.refl _ w).alloc _).trans hb, v', hR⟩
set_option maxHeartbeats 4000000 in
theorem do_variable (g B : Nat) (vv v : Value) (s : List Vl) (A : Option Addr) (c : Nat) (vs : List (ByteArray × ByteArray)) (k : Int) (tx : ByteArray) (w : World) (h : Rn w g B vv v s) (hst : s.length ≤ 10000) (hvv : vv = .slice A vs.length c) (hV : VarsIn w A vs) (hvl : vs.length ≤ 9223372036854775807) :
    Calls Try.prog 73 #[.pointer (some ⟨g, 0, none⟩), .agg #[.int .i64 k, .string tx]] w (RnPost w (Fr g B) g B vv (s ++ [⟨getT vs tx, false⟩]) (.tuple #[])) := by
  have HW := Lib.hid h
  have hgl := h.lt
  have hne : ¬ w.heap.size = g := by omega
  subst hvv
  have h0 := h.cell0
  have HV := Lib.hid (hV.later (S := No) (((But.refl No w).alloc (.cells #[.int .i64 k, .string tx] 45)).drew) (fun _ _ c => c))
  clear h hV
  go_enter Try.func73, Try.ntmps73
  go_wp2_with fail
  go_region_held3 (fun w' => w'.cell? ⟨g, 0, none⟩ = some (.slice A vs.length c) ∧ w'.cell? ⟨w.heap.size, 1, none⟩ = some (.string tx)) (first | go_keep | exact ⟨k1, k2⟩) ((go_at_call 63; refine (varsGet0 A c vs tx _ HV.out hvl).mono ?_; rintro e w1 ⟨rfl, hb1⟩; (have k1 := hb1.cell_some (p := ⟨g, 0, none⟩) (v := .slice A vs.length c) (HW.out.new (((But.refl No w).alloc _).drew)).cell0 (fun c => c)); (have k2 : w1.cell? ⟨w.heap.size, 1, none⟩ = some (.string tx) := hb1.cell_some (p := ⟨w.heap.size, 1, none⟩) ((cell_of_row _ _ 1 _ _ _ (heap_alloc_new w _)).trans rfl) (fun c => c))))
  all_goals
    go_wp2_with fail
    refine (push0 g B _ v s (getT vs tx) false _ ((HW.out.new (((But.refl No w).alloc _).drew)).new hb1) (by omega)).mono ?_
    rintro e w2 ⟨rfl, hb, v', hR⟩
    go_wp2_with fail
    go_end0
    exact ⟨rfl, ((((But.refl _ w).alloc _).drew).trans_ hb1 (fun _ _ c => c.elim)).trans hb, v', hR⟩
set_option maxHeartbeats 4000000 in
theorem do_defined (g B : Nat) (vv v : Value) (s : List Vl) (A : Option Addr) (c : Nat) (vs : List (ByteArray × ByteArray)) (k : Int) (tx : ByteArray) (w : World) (h : Rn w g B vv v s) (hst : s.length ≤ 10000) (hvv : vv = .slice A vs.length c) (hV : VarsIn w A vs) (hvl : vs.length ≤ 9223372036854775807) :
    Calls Try.prog 74 #[.pointer (some ⟨g, 0, none⟩), .agg #[.int .i64 k, .string tx]] w (RnPost w (Fr g B) g B vv (s ++ [⟨mt, getB vs tx⟩]) (.tuple #[])) := by
  have HW := Lib.hid h
  have hgl := h.lt
  have hne : ¬ w.heap.size = g := by omega
  subst hvv
  have h0 := h.cell0
  have HV := Lib.hid (hV.later (S := No) (((But.refl No w).alloc (.cells #[.int .i64 k, .string tx] 45)).drew) (fun _ _ c => c))
  clear h hV
  go_enter Try.func74, Try.ntmps74
  go_wp2_with fail
  go_region_held3 (fun w' => w'.cell? ⟨g, 0, none⟩ = some (.slice A vs.length c) ∧ w'.cell? ⟨w.heap.size, 1, none⟩ = some (.string tx)) (first | go_keep | exact ⟨k1, k2⟩) ((go_at_call 63; refine (varsGet0 A c vs tx _ HV.out hvl).mono ?_; rintro e w1 ⟨rfl, hb1⟩; (have k1 := hb1.cell_some (p := ⟨g, 0, none⟩) (v := .slice A vs.length c) (HW.out.new (((But.refl No w).alloc _).drew)).cell0 (fun c => c)); (have k2 : w1.cell? ⟨w.heap.size, 1, none⟩ = some (.string tx) := hb1.cell_some (p := ⟨w.heap.size, 1, none⟩) ((cell_of_row _ _ 1 _ _ _ (heap_alloc_new w _)).trans rfl) (fun c => c))))
  all_goals
    go_wp2_with fail
    refine (push0 g B _ v s mt (getB vs tx) _ ((HW.out.new (((But.refl No w).alloc _).drew)).new hb1) (by omega)).mono ?_
    rintro e w2 ⟨rfl, hb, v', hR⟩
    go_wp2_with fail
    go_end0
    exact ⟨rfl, ((((But.refl _ w).alloc _).drew).trans_ hb1 (fun _ _ c => c.elim)).trans hb, v', hR⟩
set_option maxHeartbeats 4000000 in
theorem do_truth (g B : Nat) (vv v : Value) (s : List Vl) (a : Vl) (k : Int) (tx : ByteArray) (w : World) (h : Rn w g B vv v (s ++ [a])) (hst : s.length ≤ 10000) :
    Calls Try.prog 76 #[.pointer (some ⟨g, 0, none⟩), .agg #[.int .i64 k, .string tx]] w (RnPost w (Fr g B) g B vv (s ++ [⟨mt, !a.text.toList.isEmpty⟩]) (.tuple #[])) := by
  have HW := Lib.hid h
  have hgl := h.lt
  have hne : ¬ w.heap.size = g := by omega
  clear h
  go_enter Try.func76, Try.ntmps76
  go_wp2_with fail
  refine (pop0 g B vv v s a _ (HW.out.new ((But.refl No w).alloc _)) (by omega)).mono ?_
  rintro e w1 ⟨rfl, hb1, v1, hR1⟩
  have HR1 := Lib.hid hR1
  have HB1 := Lib.hid hb1
  have hf0 := fieldV0
  have hf1 := fieldV1
  clear hR1 hb1
  go_wp2_with fail
  refine (push0 g B vv v1 s mt (!a.text.toList.isEmpty) _ HR1.out (by omega)).mono ?_
  rintro e w2 ⟨rfl, hb, v', hR⟩
  go_wp2_with fail
  go_end0
  exact ⟨rfl, (((But.refl _ w).alloc _).trans_ HB1.out (fun k _ c => fr_one k c)).trans hb, v', hR⟩
set_option maxHeartbeats 4000000 in
theorem do_not (g B : Nat) (vv v : Value) (s : List Vl) (a : Vl) (k : Int) (tx : ByteArray) (w : World) (h : Rn w g B vv v (s ++ [a])) (hst : s.length ≤ 10000) :
    Calls Try.prog 79 #[.pointer (some ⟨g, 0, none⟩), .agg #[.int .i64 k, .string tx]] w (RnPost w (Fr g B) g B vv (s ++ [⟨mt, !a.ok⟩]) (.tuple #[])) := by
  have HW := Lib.hid h
  have hgl := h.lt
  have hne : ¬ w.heap.size = g := by omega
  clear h
  go_enter Try.func79, Try.ntmps79
  go_wp2_with fail
  refine (pop0 g B vv v s a _ (HW.out.new ((But.refl No w).alloc _)) (by omega)).mono ?_
  rintro e w1 ⟨rfl, hb1, v1, hR1⟩
  have HR1 := Lib.hid hR1
  have HB1 := Lib.hid hb1
  have hf0 := fieldV0
  have hf1 := fieldV1
  clear hR1 hb1
  go_wp2_with fail
  refine (push0 g B vv v1 s mt (!a.ok) _ HR1.out (by omega)).mono ?_
  rintro e w2 ⟨rfl, hb, v', hR⟩
  go_wp2_with fail
  go_end0
  exact ⟨rfl, (((But.refl _ w).alloc _).trans_ HB1.out (fun k _ c => fr_one k c)).trans hb, v', hR⟩
set_option maxHeartbeats 4000000 in
theorem do_eq (g B : Nat) (vv v : Value) (s : List Vl) (a b : Vl) (tx : ByteArray) (w : World) (h : Rn w g B vv v (s ++ [a] ++ [b])) (hst : s.length ≤ 10000) :
    Calls Try.prog 77 #[.pointer (some ⟨g, 0, none⟩), .agg #[.int .i64 7, .string tx]] w (RnPost w (Fr g B) g B vv (s ++ [⟨mt, a.text.toList == b.text.toList⟩]) (.tuple #[])) := by
  have HW := Lib.hid h
  have hgl := h.lt
  have hne : ¬ w.heap.size = g := by omega
  clear h
  go_enter Try.func77, Try.ntmps77
  go_wp2_with fail
  refine (pop0 g B vv v (s ++ [a]) b _ (HW.out.new ((But.refl No w).alloc _)) (by simp; omega)).mono ?_
  rintro e w1 ⟨rfl, hb1, v1, hR1⟩
  have HR1 := Lib.hid hR1
  have HB1 := Lib.hid hb1
  clear hR1 hb1
  go_wp2_with fail
  refine (pop0 g B vv v1 s a _ HR1.out (by omega)).mono ?_
  rintro e w2 ⟨rfl, hb2, v2, hR2⟩
  have HR2 := Lib.hid hR2
  have HB2 := Lib.hid (HB1.out.trans hb2)
  have hx := xbox HB2.out hgl
  have hs2 := HB2.out.size
  have hs3 : w.heap.size < w2.heap.size := by simp at hs2; omega
  have hne1 : ¬ w.heap.size = w2.heap.size := by omega
  have hne2 : ¬ w.heap.size = w2.heap.size + 1 := by omega
  clear hR2 hb2 hs2
  go_wp2_with fail
  have hbn : But No w2 ((w2.alloc (.cells #[.string b.text, .bool b.ok] 93)).alloc (.cells #[.string a.text, .bool a.ok] 93)) := ((But.refl No w2).alloc _).alloc _
  refine (push0 g B vv v2 s mt (a.text.toList == b.text.toList) _ (HR2.out.new hbn) (by omega)).mono ?_
  rintro e w4 ⟨rfl, hb, v', hR⟩
  go_wp2_with fail
  go_end0
  exact ⟨rfl, ((((But.refl _ w).alloc _).trans_ HB2.out (fun k _ c => fr_one k c)).trans_ hbn (fun _ _ c => c.elim)).trans hb, v', hR⟩
set_option maxHeartbeats 4000000 in
theorem do_ne (g B : Nat) (vv v : Value) (s : List Vl) (a b : Vl) (tx : ByteArray) (w : World) (h : Rn w g B vv v (s ++ [a] ++ [b])) (hst : s.length ≤ 10000) :
    Calls Try.prog 77 #[.pointer (some ⟨g, 0, none⟩), .agg #[.int .i64 8, .string tx]] w (RnPost w (Fr g B) g B vv (s ++ [⟨mt, !(a.text.toList == b.text.toList)⟩]) (.tuple #[])) := by
  have HW := Lib.hid h
  have hgl := h.lt
  have hne : ¬ w.heap.size = g := by omega
  clear h
  go_enter Try.func77, Try.ntmps77
  go_wp2_with fail
  refine (pop0 g B vv v (s ++ [a]) b _ (HW.out.new ((But.refl No w).alloc _)) (by simp; omega)).mono ?_
  rintro e w1 ⟨rfl, hb1, v1, hR1⟩
  have HR1 := Lib.hid hR1
  have HB1 := Lib.hid hb1
  clear hR1 hb1
  go_wp2_with fail
  refine (pop0 g B vv v1 s a _ HR1.out (by omega)).mono ?_
  rintro e w2 ⟨rfl, hb2, v2, hR2⟩
  have HR2 := Lib.hid hR2
  have HB2 := Lib.hid (HB1.out.trans hb2)
  have hx := xbox HB2.out hgl
  have hs2 := HB2.out.size
  have hs3 : w.heap.size < w2.heap.size := by simp at hs2; omega
  have hne1 : ¬ w.heap.size = w2.heap.size := by omega
  have hne2 : ¬ w.heap.size = w2.heap.size + 1 := by omega
  clear hR2 hb2 hs2
  go_wp2_with fail
  have hbn : But No w2 ((w2.alloc (.cells #[.string b.text, .bool b.ok] 93)).alloc (.cells #[.string a.text, .bool a.ok] 93)) := ((But.refl No w2).alloc _).alloc _
  refine (push0 g B vv v2 s mt (!(a.text.toList == b.text.toList)) _ (HR2.out.new hbn) (by omega)).mono ?_
  rintro e w4 ⟨rfl, hb, v', hR⟩
  go_wp2_with fail
  go_end0
  exact ⟨rfl, ((((But.refl _ w).alloc _).trans_ HB2.out (fun k _ c => fr_one k c)).trans_ hbn (fun _ _ c => c.elim)).trans hb, v', hR⟩
set_option maxHeartbeats 4000000 in
theorem do_match (g B : Nat) (vv v : Value) (s : List Vl) (a b : Vl) (tx : ByteArray) (w : World) (h : Rn w g B vv v (s ++ [a] ++ [b])) (hst : s.length ≤ 10000) (has : a.text.size ≤ 9223372036854775807) (hbs : b.text.size ≤ 9223372036854775807) :
    Calls Try.prog 78 #[.pointer (some ⟨g, 0, none⟩), .agg #[.int .i64 9, .string tx]] w (RnPost w (Fr g B) g B vv (s ++ [⟨mt, (matchRes b.text a.text).1⟩]) (.tuple #[])) := by
  have HW := Lib.hid h
  have hgl := h.lt
  have hne : ¬ w.heap.size = g := by omega
  clear h
  go_enter Try.func78, Try.ntmps78
  go_wp2_with fail
  refine (pop0 g B vv v (s ++ [a]) b _ (HW.out.new ((But.refl No w).alloc _)) (by simp; omega)).mono ?_
  rintro e w1 ⟨rfl, hb1, v1, hR1⟩
  have HR1 := Lib.hid hR1
  have HB1 := Lib.hid hb1
  clear hR1 hb1
  go_wp2_with fail
  refine (pop0 g B vv v1 s a _ HR1.out (by omega)).mono ?_
  rintro e w2 ⟨rfl, hb2, v2, hR2⟩
  have HR2 := Lib.hid hR2
  have HB2 := Lib.hid (HB1.out.trans hb2)
  have hx := xbox HB2.out hgl
  have hs2 := HB2.out.size
  have hs3 : w.heap.size < w2.heap.size := by simp at hs2; omega
  have hne1 : ¬ w.heap.size = w2.heap.size := by omega
  have hne2 : ¬ w.heap.size = w2.heap.size + 1 := by omega
  clear hR2 hb2 hs2
  obtain ⟨m1, hm1⟩ : ∃ m1, (matchRes b.text a.text).1 = m1 := ⟨_, rfl⟩
  obtain ⟨m2, hm2⟩ : ∃ m2, (matchRes b.text a.text).2 = m2 := ⟨_, rfl⟩
  have hmm := fun w3 => match0 b.text a.text w3 hbs has
  rw [hm1, hm2] at hmm
  have HMM := Lib.hid hmm
  have HM1 := Lib.hid hm1
  clear hmm hm1 hm2
  go_wp2_with fail
  refine (HMM.out _).mono ?_
  rintro e w3 ⟨rfl, hb3⟩
  have hbn := (((But.refl No w2).alloc (.cells #[.string b.text, .bool b.ok] 93)).alloc (.cells #[.string a.text, .bool a.ok] 93)).trans hb3
  have hx3 := hbn.cell_some hx (fun c => c)
  clear hb3 hx
  go_wp2_with fail
  refine (push0 g B vv v2 s mt m1 _ (HR2.out.new hbn) (by omega)).mono ?_
  rintro e w4 ⟨rfl, hb, v', hR⟩
  go_wp2_with fail
  go_end0
  exact ⟨rfl, ((((But.refl _ w).alloc _).trans_ HB2.out (fun k _ c => fr_one k c)).trans_ hbn (fun _ _ c => c.elim)).trans hb, v', by rw [HM1.out]; exact hR⟩
set_option maxHeartbeats 4000000 in
theorem do_unlike (g B : Nat) (vv v : Value) (s : List Vl) (a b : Vl) (tx : ByteArray) (w : World) (h : Rn w g B vv v (s ++ [a] ++ [b])) (hst : s.length ≤ 10000) (has : a.text.size ≤ 9223372036854775807) (hbs : b.text.size ≤ 9223372036854775807) :
    Calls Try.prog 78 #[.pointer (some ⟨g, 0, none⟩), .agg #[.int .i64 10, .string tx]] w (RnPost w (Fr g B) g B vv (s ++ [⟨mt, !(matchRes b.text a.text).1⟩]) (.tuple #[])) := by
  have HW := Lib.hid h
  have hgl := h.lt
  have hne : ¬ w.heap.size = g := by omega
  clear h
  go_enter Try.func78, Try.ntmps78
  go_wp2_with fail
  refine (pop0 g B vv v (s ++ [a]) b _ (HW.out.new ((But.refl No w).alloc _)) (by simp; omega)).mono ?_
  rintro e w1 ⟨rfl, hb1, v1, hR1⟩
  have HR1 := Lib.hid hR1
  have HB1 := Lib.hid hb1
  clear hR1 hb1
  go_wp2_with fail
  refine (pop0 g B vv v1 s a _ HR1.out (by omega)).mono ?_
  rintro e w2 ⟨rfl, hb2, v2, hR2⟩
  have HR2 := Lib.hid hR2
  have HB2 := Lib.hid (HB1.out.trans hb2)
  have hx := xbox HB2.out hgl
  have hs2 := HB2.out.size
  have hs3 : w.heap.size < w2.heap.size := by simp at hs2; omega
  have hne1 : ¬ w.heap.size = w2.heap.size := by omega
  have hne2 : ¬ w.heap.size = w2.heap.size + 1 := by omega
  clear hR2 hb2 hs2
  obtain ⟨m1, hm1⟩ : ∃ m1, (matchRes b.text a.text).1 = m1 := ⟨_, rfl⟩
  obtain ⟨m2, hm2⟩ : ∃ m2, (matchRes b.text a.text).2 = m2 := ⟨_, rfl⟩
  have hmm := fun w3 => match0 b.text a.text w3 hbs has
  rw [hm1, hm2] at hmm
  have HMM := Lib.hid hmm
  have HM1 := Lib.hid hm1
  clear hmm hm1 hm2
  go_wp2_with fail
  refine (HMM.out _).mono ?_
  rintro e w3 ⟨rfl, hb3⟩
  have hbn := (((But.refl No w2).alloc (.cells #[.string b.text, .bool b.ok] 93)).alloc (.cells #[.string a.text, .bool a.ok] 93)).trans hb3
  have hx3 := hbn.cell_some hx (fun c => c)
  clear hb3 hx
  go_wp2_with fail
  refine (push0 g B vv v2 s mt (!m1) _ (HR2.out.new hbn) (by omega)).mono ?_
  rintro e w4 ⟨rfl, hb, v', hR⟩
  go_wp2_with fail
  go_end0
  exact ⟨rfl, ((((But.refl _ w).alloc _).trans_ HB2.out (fun k _ c => fr_one k c)).trans_ hbn (fun _ _ c => c.elim)).trans hb, v', by rw [HM1.out]; exact hR⟩
set_option maxHeartbeats 4000000 in
theorem do_and (g B : Nat) (vv v : Value) (s : List Vl) (a b : Vl) (k : Int) (tx : ByteArray) (w : World) (h : Rn w g B vv v (s ++ [a] ++ [b])) (hst : s.length ≤ 10000) :
    Calls Try.prog 80 #[.pointer (some ⟨g, 0, none⟩), .agg #[.int .i64 k, .string tx]] w (RnPost w (Fr g B) g B vv (s ++ [⟨mt, a.ok && b.ok⟩]) (.tuple #[])) := by
  obtain ⟨at_, aok⟩ := a
  obtain ⟨bt_, bok⟩ := b
  cases aok <;> cases bok
  · have HW := Lib.hid h
    have hgl := h.lt
    have hne : ¬ w.heap.size = g := by omega
    clear h
    go_enter Try.func80, Try.ntmps80
    go_wp2_with fail
    refine (pop0 g B vv v (s ++ [⟨at_, false⟩]) ⟨bt_, false⟩ _ (HW.out.new ((But.refl No w).alloc _)) (by simp; omega)).mono ?_
    rintro e w1 ⟨rfl, hb1, v1, hR1⟩
    have HR1 := Lib.hid hR1
    have HB1 := Lib.hid hb1
    clear hR1 hb1
    go_wp2_with fail
    refine (pop0 g B vv v1 s ⟨at_, false⟩ _ HR1.out (by omega)).mono ?_
    rintro e w2 ⟨rfl, hb2, v2, hR2⟩
    have HR2 := Lib.hid hR2
    have HB2 := Lib.hid (HB1.out.trans hb2)
    have hx := xbox HB2.out hgl
    have hs2 := HB2.out.size
    have hs3 : w.heap.size < w2.heap.size := by simp at hs2; omega
    have hne1 : ¬ w.heap.size = w2.heap.size := by omega
    have hne2 : ¬ w.heap.size = w2.heap.size + 1 := by omega
    clear hR2 hb2 hs2
    go_wp2_with fail
    have hbn : But No w2 ((w2.alloc (.cells #[.string bt_, .bool false] 93)).alloc (.cells #[.string at_, .bool false] 93)) := ((But.refl No w2).alloc _).alloc _
    refine (push0 g B vv v2 s mt false _ (HR2.out.new hbn) (by omega)).mono ?_
    rintro e w4 ⟨rfl, hb, v', hR⟩
    go_wp2_with fail
    go_end0
    exact ⟨rfl, ((((But.refl _ w).alloc _).trans_ HB2.out (fun k _ c => fr_one k c)).trans_ hbn (fun _ _ c => c.elim)).trans hb, v', hR⟩
  · have HW := Lib.hid h
    have hgl := h.lt
    have hne : ¬ w.heap.size = g := by omega
    clear h
    go_enter Try.func80, Try.ntmps80
    go_wp2_with fail
    refine (pop0 g B vv v (s ++ [⟨at_, false⟩]) ⟨bt_, true⟩ _ (HW.out.new ((But.refl No w).alloc _)) (by simp; omega)).mono ?_
    rintro e w1 ⟨rfl, hb1, v1, hR1⟩
    have HR1 := Lib.hid hR1
    have HB1 := Lib.hid hb1
    clear hR1 hb1
    go_wp2_with fail
    refine (pop0 g B vv v1 s ⟨at_, false⟩ _ HR1.out (by omega)).mono ?_
    rintro e w2 ⟨rfl, hb2, v2, hR2⟩
    have HR2 := Lib.hid hR2
    have HB2 := Lib.hid (HB1.out.trans hb2)
    have hx := xbox HB2.out hgl
    have hs2 := HB2.out.size
    have hs3 : w.heap.size < w2.heap.size := by simp at hs2; omega
    have hne1 : ¬ w.heap.size = w2.heap.size := by omega
    have hne2 : ¬ w.heap.size = w2.heap.size + 1 := by omega
    clear hR2 hb2 hs2
    go_wp2_with fail
    have hbn : But No w2 ((w2.alloc (.cells #[.string bt_, .bool true] 93)).alloc (.cells #[.string at_, .bool false] 93)) := ((But.refl No w2).alloc _).alloc _
    refine (push0 g B vv v2 s mt false _ (HR2.out.new hbn) (by omega)).mono ?_
    rintro e w4 ⟨rfl, hb, v', hR⟩
    go_wp2_with fail
    go_end0
    exact ⟨rfl, ((((But.refl _ w).alloc _).trans_ HB2.out (fun k _ c => fr_one k c)).trans_ hbn (fun _ _ c => c.elim)).trans hb, v', hR⟩
  · have HW := Lib.hid h
    have hgl := h.lt
    have hne : ¬ w.heap.size = g := by omega
    clear h
    go_enter Try.func80, Try.ntmps80
    go_wp2_with fail
    refine (pop0 g B vv v (s ++ [⟨at_, true⟩]) ⟨bt_, false⟩ _ (HW.out.new ((But.refl No w).alloc _)) (by simp; omega)).mono ?_
    rintro e w1 ⟨rfl, hb1, v1, hR1⟩
    have HR1 := Lib.hid hR1
    have HB1 := Lib.hid hb1
    clear hR1 hb1
    go_wp2_with fail
    refine (pop0 g B vv v1 s ⟨at_, true⟩ _ HR1.out (by omega)).mono ?_
    rintro e w2 ⟨rfl, hb2, v2, hR2⟩
    have HR2 := Lib.hid hR2
    have HB2 := Lib.hid (HB1.out.trans hb2)
    have hx := xbox HB2.out hgl
    have hs2 := HB2.out.size
    have hs3 : w.heap.size < w2.heap.size := by simp at hs2; omega
    have hne1 : ¬ w.heap.size = w2.heap.size := by omega
    have hne2 : ¬ w.heap.size = w2.heap.size + 1 := by omega
    clear hR2 hb2 hs2
    go_wp2_with fail
    have hbn : But No w2 ((w2.alloc (.cells #[.string bt_, .bool false] 93)).alloc (.cells #[.string at_, .bool true] 93)) := ((But.refl No w2).alloc _).alloc _
    refine (push0 g B vv v2 s mt false _ (HR2.out.new hbn) (by omega)).mono ?_
    rintro e w4 ⟨rfl, hb, v', hR⟩
    go_wp2_with fail
    go_end0
    exact ⟨rfl, ((((But.refl _ w).alloc _).trans_ HB2.out (fun k _ c => fr_one k c)).trans_ hbn (fun _ _ c => c.elim)).trans hb, v', hR⟩
  · have HW := Lib.hid h
    have hgl := h.lt
    have hne : ¬ w.heap.size = g := by omega
    clear h
    go_enter Try.func80, Try.ntmps80
    go_wp2_with fail
    refine (pop0 g B vv v (s ++ [⟨at_, true⟩]) ⟨bt_, true⟩ _ (HW.out.new ((But.refl No w).alloc _)) (by simp; omega)).mono ?_
    rintro e w1 ⟨rfl, hb1, v1, hR1⟩
    have HR1 := Lib.hid hR1
    have HB1 := Lib.hid hb1
    clear hR1 hb1
    go_wp2_with fail
    refine (pop0 g B vv v1 s ⟨at_, true⟩ _ HR1.out (by omega)).mono ?_
    rintro e w2 ⟨rfl, hb2, v2, hR2⟩
    have HR2 := Lib.hid hR2
    have HB2 := Lib.hid (HB1.out.trans hb2)
    have hx := xbox HB2.out hgl
    have hs2 := HB2.out.size
    have hs3 : w.heap.size < w2.heap.size := by simp at hs2; omega
    have hne1 : ¬ w.heap.size = w2.heap.size := by omega
    have hne2 : ¬ w.heap.size = w2.heap.size + 1 := by omega
    clear hR2 hb2 hs2
    go_wp2_with fail
    have hbn : But No w2 ((w2.alloc (.cells #[.string bt_, .bool true] 93)).alloc (.cells #[.string at_, .bool true] 93)) := ((But.refl No w2).alloc _).alloc _
    refine (push0 g B vv v2 s mt true _ (HR2.out.new hbn) (by omega)).mono ?_
    rintro e w4 ⟨rfl, hb, v', hR⟩
    go_wp2_with fail
    go_end0
    exact ⟨rfl, ((((But.refl _ w).alloc _).trans_ HB2.out (fun k _ c => fr_one k c)).trans_ hbn (fun _ _ c => c.elim)).trans hb, v', hR⟩
set_option maxHeartbeats 4000000 in
theorem do_or (g B : Nat) (vv v : Value) (s : List Vl) (a b : Vl) (k : Int) (tx : ByteArray) (w : World) (h : Rn w g B vv v (s ++ [a] ++ [b])) (hst : s.length ≤ 10000) :
    Calls Try.prog 81 #[.pointer (some ⟨g, 0, none⟩), .agg #[.int .i64 k, .string tx]] w (RnPost w (Fr g B) g B vv (s ++ [⟨mt, a.ok || b.ok⟩]) (.tuple #[])) := by
  obtain ⟨at_, aok⟩ := a
  obtain ⟨bt_, bok⟩ := b
  cases aok <;> cases bok
  · have HW := Lib.hid h
    have hgl := h.lt
    have hne : ¬ w.heap.size = g := by omega
    clear h
    go_enter Try.func81, Try.ntmps81
    go_wp2_with fail
    refine (pop0 g B vv v (s ++ [⟨at_, false⟩]) ⟨bt_, false⟩ _ (HW.out.new ((But.refl No w).alloc _)) (by simp; omega)).mono ?_
    rintro e w1 ⟨rfl, hb1, v1, hR1⟩
    have HR1 := Lib.hid hR1
    have HB1 := Lib.hid hb1
    clear hR1 hb1
    go_wp2_with fail
    refine (pop0 g B vv v1 s ⟨at_, false⟩ _ HR1.out (by omega)).mono ?_
    rintro e w2 ⟨rfl, hb2, v2, hR2⟩
    have HR2 := Lib.hid hR2
    have HB2 := Lib.hid (HB1.out.trans hb2)
    have hx := xbox HB2.out hgl
    have hs2 := HB2.out.size
    have hs3 : w.heap.size < w2.heap.size := by simp at hs2; omega
    have hne1 : ¬ w.heap.size = w2.heap.size := by omega
    have hne2 : ¬ w.heap.size = w2.heap.size + 1 := by omega
    clear hR2 hb2 hs2
    go_wp2_with fail
    have hbn : But No w2 ((w2.alloc (.cells #[.string bt_, .bool false] 93)).alloc (.cells #[.string at_, .bool false] 93)) := ((But.refl No w2).alloc _).alloc _
    refine (push0 g B vv v2 s mt false _ (HR2.out.new hbn) (by omega)).mono ?_
    rintro e w4 ⟨rfl, hb, v', hR⟩
    go_wp2_with fail
    go_end0
    exact ⟨rfl, ((((But.refl _ w).alloc _).trans_ HB2.out (fun k _ c => fr_one k c)).trans_ hbn (fun _ _ c => c.elim)).trans hb, v', hR⟩
  · have HW := Lib.hid h
    have hgl := h.lt
    have hne : ¬ w.heap.size = g := by omega
    clear h
    go_enter Try.func81, Try.ntmps81
    go_wp2_with fail
    refine (pop0 g B vv v (s ++ [⟨at_, false⟩]) ⟨bt_, true⟩ _ (HW.out.new ((But.refl No w).alloc _)) (by simp; omega)).mono ?_
    rintro e w1 ⟨rfl, hb1, v1, hR1⟩
    have HR1 := Lib.hid hR1
    have HB1 := Lib.hid hb1
    clear hR1 hb1
    go_wp2_with fail
    refine (pop0 g B vv v1 s ⟨at_, false⟩ _ HR1.out (by omega)).mono ?_
    rintro e w2 ⟨rfl, hb2, v2, hR2⟩
    have HR2 := Lib.hid hR2
    have HB2 := Lib.hid (HB1.out.trans hb2)
    have hx := xbox HB2.out hgl
    have hs2 := HB2.out.size
    have hs3 : w.heap.size < w2.heap.size := by simp at hs2; omega
    have hne1 : ¬ w.heap.size = w2.heap.size := by omega
    have hne2 : ¬ w.heap.size = w2.heap.size + 1 := by omega
    clear hR2 hb2 hs2
    go_wp2_with fail
    have hbn : But No w2 ((w2.alloc (.cells #[.string bt_, .bool true] 93)).alloc (.cells #[.string at_, .bool false] 93)) := ((But.refl No w2).alloc _).alloc _
    refine (push0 g B vv v2 s mt true _ (HR2.out.new hbn) (by omega)).mono ?_
    rintro e w4 ⟨rfl, hb, v', hR⟩
    go_wp2_with fail
    go_end0
    exact ⟨rfl, ((((But.refl _ w).alloc _).trans_ HB2.out (fun k _ c => fr_one k c)).trans_ hbn (fun _ _ c => c.elim)).trans hb, v', hR⟩
  · have HW := Lib.hid h
    have hgl := h.lt
    have hne : ¬ w.heap.size = g := by omega
    clear h
    go_enter Try.func81, Try.ntmps81
    go_wp2_with fail
    refine (pop0 g B vv v (s ++ [⟨at_, true⟩]) ⟨bt_, false⟩ _ (HW.out.new ((But.refl No w).alloc _)) (by simp; omega)).mono ?_
    rintro e w1 ⟨rfl, hb1, v1, hR1⟩
    have HR1 := Lib.hid hR1
    have HB1 := Lib.hid hb1
    clear hR1 hb1
    go_wp2_with fail
    refine (pop0 g B vv v1 s ⟨at_, true⟩ _ HR1.out (by omega)).mono ?_
    rintro e w2 ⟨rfl, hb2, v2, hR2⟩
    have HR2 := Lib.hid hR2
    have HB2 := Lib.hid (HB1.out.trans hb2)
    have hx := xbox HB2.out hgl
    have hs2 := HB2.out.size
    have hs3 : w.heap.size < w2.heap.size := by simp at hs2; omega
    have hne1 : ¬ w.heap.size = w2.heap.size := by omega
    have hne2 : ¬ w.heap.size = w2.heap.size + 1 := by omega
    clear hR2 hb2 hs2
    go_wp2_with fail
    have hbn : But No w2 ((w2.alloc (.cells #[.string bt_, .bool false] 93)).alloc (.cells #[.string at_, .bool true] 93)) := ((But.refl No w2).alloc _).alloc _
    refine (push0 g B vv v2 s mt true _ (HR2.out.new hbn) (by omega)).mono ?_
    rintro e w4 ⟨rfl, hb, v', hR⟩
    go_wp2_with fail
    go_end0
    exact ⟨rfl, ((((But.refl _ w).alloc _).trans_ HB2.out (fun k _ c => fr_one k c)).trans_ hbn (fun _ _ c => c.elim)).trans hb, v', hR⟩
  · have HW := Lib.hid h
    have hgl := h.lt
    have hne : ¬ w.heap.size = g := by omega
    clear h
    go_enter Try.func81, Try.ntmps81
    go_wp2_with fail
    refine (pop0 g B vv v (s ++ [⟨at_, true⟩]) ⟨bt_, true⟩ _ (HW.out.new ((But.refl No w).alloc _)) (by simp; omega)).mono ?_
    rintro e w1 ⟨rfl, hb1, v1, hR1⟩
    have HR1 := Lib.hid hR1
    have HB1 := Lib.hid hb1
    clear hR1 hb1
    go_wp2_with fail
    refine (pop0 g B vv v1 s ⟨at_, true⟩ _ HR1.out (by omega)).mono ?_
    rintro e w2 ⟨rfl, hb2, v2, hR2⟩
    have HR2 := Lib.hid hR2
    have HB2 := Lib.hid (HB1.out.trans hb2)
    have hx := xbox HB2.out hgl
    have hs2 := HB2.out.size
    have hs3 : w.heap.size < w2.heap.size := by simp at hs2; omega
    have hne1 : ¬ w.heap.size = w2.heap.size := by omega
    have hne2 : ¬ w.heap.size = w2.heap.size + 1 := by omega
    clear hR2 hb2 hs2
    go_wp2_with fail
    have hbn : But No w2 ((w2.alloc (.cells #[.string bt_, .bool true] 93)).alloc (.cells #[.string at_, .bool true] 93)) := ((But.refl No w2).alloc _).alloc _
    refine (push0 g B vv v2 s mt true _ (HR2.out.new hbn) (by omega)).mono ?_
    rintro e w4 ⟨rfl, hb, v', hR⟩
    go_wp2_with fail
    go_end0
    exact ⟨rfl, ((((But.refl _ w).alloc _).trans_ HB2.out (fun k _ c => fr_one k c)).trans_ hbn (fun _ _ c => c.elim)).trans hb, v', hR⟩
end Go.Proofs.Ytinhlaiogkmkfaa.G
end
section
/- rule.say: the walk. -/
namespace Go.Proofs.Ytinhlaiogkmkfaa.G
open Go.RowKit
attribute [local simp, local go_sem] alloc_drewN setCell_drewN
set_option linter.unusedVariables false
set_option linter.unusedSimpArgs false
set_option maxRecDepth 100000
def pop1 (st : List Vl) : Option (List Vl × Vl) := st.getLast?.map fun a => (st.dropLast, a)
theorem pop1_some {st s : List Vl} {a : Vl} (h : pop1 st = some (s, a)) : st = s ++ [a] := by
  unfold pop1 at h
  cases hg : st.getLast? with
  | none => rw [hg] at h; cases h
  | some b =>
    rw [hg] at h
    simp only [Option.map_some, Option.some.injEq, Prod.mk.injEq] at h
    obtain ⟨rfl, rfl⟩ := h
    have hne : st ≠ [] := by intro e; rw [e] at hg; cases hg
    have := List.dropLast_concat_getLast hne
    rw [List.getLast?_eq_some_getLast hne] at hg
    injection hg with hg
    rw [hg] at this
    exact this.symm
theorem pop1_snoc (s : List Vl) (a : Vl) : pop1 (s ++ [a]) = some (s, a) := by simp [pop1]
def lay1 (st : List Vl) (f : Vl → Bool) : Option (List Vl) := (pop1 st).map fun x => x.1 ++ [⟨mt, f x.2⟩]
def lay2 (st : List Vl) (f : Vl → Vl → Bool) : Option (List Vl) := (pop1 st).bind fun y => (pop1 y.1).map fun x => x.1 ++ [⟨mt, f x.2 y.2⟩]
theorem lay1_some {st st' : List Vl} {f : Vl → Bool} (h : lay1 st f = some st') : ∃ s a, st = s ++ [a] ∧ st' = s ++ [⟨mt, f a⟩] := by
  unfold lay1 at h
  cases hp : pop1 st with
  | none => rw [hp] at h; cases h
  | some x =>
    rw [hp] at h
    simp only [Option.map_some, Option.some.injEq] at h
    exact ⟨x.1, x.2, pop1_some hp, h.symm⟩
theorem lay2_some {st st' : List Vl} {f : Vl → Vl → Bool} (h : lay2 st f = some st') : ∃ s a b, st = s ++ [a] ++ [b] ∧ st' = s ++ [⟨mt, f a b⟩] := by
  unfold lay2 at h
  cases hp : pop1 st with
  | none => rw [hp] at h; cases h
  | some y =>
    rw [hp] at h
    simp only [Option.bind_some] at h
    cases hq : pop1 y.1 with
    | none => rw [hq] at h; cases h
    | some x =>
      rw [hq] at h
      simp only [Option.map_some, Option.some.injEq] at h
      refine ⟨x.1, x.2, y.2, ?_, h.symm⟩
      rw [← pop1_some hq]
      exact pop1_some hp
/-- What one step does to the stack of values. -/
def stepV (vs : List (ByteArray × ByteArray)) (k : Int) (tx : ByteArray) (st : List Vl) : Option (List Vl) :=
  if k = 1 then some (st ++ [⟨tx, false⟩])
  else if k = 2 then some (st ++ [⟨getT vs tx, false⟩])
  else if k = 3 then some (st ++ [⟨mt, getB vs tx⟩])
  else if k = 4 then some (st ++ [⟨mt, true⟩])
  else if k = 5 then some (st ++ [⟨mt, false⟩])
  else if k = 6 then lay1 st (fun a => !a.text.toList.isEmpty)
  else if k = 7 then lay2 st (fun a b => a.text.toList == b.text.toList)
  else if k = 8 then lay2 st (fun a b => !(a.text.toList == b.text.toList))
  else if k = 9 then lay2 st (fun a b => (matchRes b.text a.text).1)
  else if k = 10 then lay2 st (fun a b => !(matchRes b.text a.text).1)
  else if k = 11 then lay1 st (fun a => !a.ok)
  else if k = 12 then lay2 st (fun a b => a.ok && b.ok)
  else if k = 13 then lay2 st (fun a b => a.ok || b.ok)
  else none
def runV (vs : List (ByteArray × ByteArray)) : List (Int × ByteArray) → List Vl → Option (List Vl)
  | [], st => some st
  | q :: r, st => (stepV vs q.1 q.2 st).bind (runV vs r)
def sayV (vs : List (ByteArray × ByteArray)) (t : List (Int × ByteArray)) : Option Bool := (runV vs t []).bind fun st => (pop1 st).map fun x => x.2.ok
/-- The table of what each kind of step does. -/
def doTab : Array Value := #[.nilFunc, .func (.func 72) #[] #[], .func (.func 73) #[] #[], .func (.func 74) #[] #[], .func (.func 75) #[] #[], .func (.func 75) #[] #[], .func (.func 76) #[] #[], .func (.func 77) #[] #[], .func (.func 77) #[] #[], .func (.func 78) #[] #[], .func (.func 78) #[] #[], .func (.func 79) #[] #[], .func (.func 80) #[] #[], .func (.func 81) #[] #[]]
theorem steps_0 (w : World) : Calls Try.prog 53 #[] w fun e w' => e = .returned (.slice (some ⟨w.heap.size, 0, none⟩) 14 14) ∧ w' = w.alloc (.cells doTab 91) := by
  go_enter Try.func53, Try.ntmps53
  go_wp2
  go_ret
  exact ⟨rfl, rfl⟩
def SizedV (st : List Vl) : Prop := ∀ q ∈ st, q.text.size ≤ 9223372036854775807
theorem sized_snoc {st : List Vl} {q : Vl} (h : SizedV st) (hq : q.text.size ≤ 9223372036854775807) : SizedV (st ++ [q]) := by
  intro x hx
  rcases List.mem_append.1 hx with h1 | h1
  · exact h x h1
  · rw [List.mem_singleton.1 h1]; exact hq
theorem sized_left {s l : List Vl} (h : SizedV (s ++ l)) : SizedV s := fun x hx => h x (List.mem_append_left _ hx)
theorem mt_size : mt.size ≤ 9223372036854775807 := by decide
theorem getV_size {vs : List (ByteArray × ByteArray)} (hv : ∀ p ∈ vs, p.2.size ≤ 9223372036854775807) (n : ByteArray) : (getT vs n).size ≤ 9223372036854775807 := by
  unfold getT
  induction vs with
  | nil => exact mt_size
  | cons p r ih =>
    unfold getV
    split
    · exact hv p (List.mem_cons_self ..)
    · exact ih (fun q hq => hv q (List.mem_cons_of_mem _ hq))
theorem stepV_sized {vs : List (ByteArray × ByteArray)} {k : Int} {tx : ByteArray} {st st' : List Vl} (hs : stepV vs k tx st = some st') (h : SizedV st) (htx : tx.size ≤ 9223372036854775807) (hv : ∀ p ∈ vs, p.2.size ≤ 9223372036854775807) :
    SizedV st' ∧ st'.length ≤ st.length + 1 := by
  have l0 : ∀ {q : Vl}, some (st ++ [q]) = some st' → q.text.size ≤ 9223372036854775807 → SizedV st' ∧ st'.length ≤ st.length + 1 := by
    intro q e hq
    injection e with e
    subst e
    exact ⟨sized_snoc h hq, by simp⟩
  have l1 : ∀ {f : Vl → Bool}, lay1 st f = some st' → SizedV st' ∧ st'.length ≤ st.length + 1 := by
    intro f e
    obtain ⟨s, a, rfl, rfl⟩ := lay1_some e
    exact ⟨sized_snoc (sized_left h) mt_size, by simp⟩
  have l2 : ∀ {f : Vl → Vl → Bool}, lay2 st f = some st' → SizedV st' ∧ st'.length ≤ st.length + 1 := by
    intro f e
    obtain ⟨s, a, b, rfl, rfl⟩ := lay2_some e
    exact ⟨sized_snoc (sized_left (sized_left h)) mt_size, by simp⟩
  unfold stepV at hs
  by_cases h1 : k = 1
  · rw [if_pos h1] at hs; exact l0 hs htx
  rw [if_neg h1] at hs
  by_cases h2 : k = 2
  · rw [if_pos h2] at hs; exact l0 hs (getV_size hv tx)
  rw [if_neg h2] at hs
  by_cases h3 : k = 3
  · rw [if_pos h3] at hs; exact l0 hs mt_size
  rw [if_neg h3] at hs
  by_cases h4 : k = 4
  · rw [if_pos h4] at hs; exact l0 hs mt_size
  rw [if_neg h4] at hs
  by_cases h5 : k = 5
  · rw [if_pos h5] at hs; exact l0 hs mt_size
  rw [if_neg h5] at hs
  by_cases h6 : k = 6
  · rw [if_pos h6] at hs; exact l1 hs
  rw [if_neg h6] at hs
  by_cases h7 : k = 7
  · rw [if_pos h7] at hs; exact l2 hs
  rw [if_neg h7] at hs
  by_cases h8 : k = 8
  · rw [if_pos h8] at hs; exact l2 hs
  rw [if_neg h8] at hs
  by_cases h9 : k = 9
  · rw [if_pos h9] at hs; exact l2 hs
  rw [if_neg h9] at hs
  by_cases h10 : k = 10
  · rw [if_pos h10] at hs; exact l2 hs
  rw [if_neg h10] at hs
  by_cases h11 : k = 11
  · rw [if_pos h11] at hs; exact l1 hs
  rw [if_neg h11] at hs
  by_cases h12 : k = 12
  · rw [if_pos h12] at hs; exact l2 hs
  rw [if_neg h12] at hs
  by_cases h13 : k = 13
  · rw [if_pos h13] at hs; exact l2 hs
  rw [if_neg h13] at hs
  cases hs
/-- The function that the table has for a kind: it may be called, and does what stepV says. -/
theorem does0 (g B : Nat) (A : Option Addr) (c : Nat) (vs : List (ByteArray × ByteArray)) (k : Int) (tx : ByteArray) (st st' : List Vl) (hs : stepV vs k tx st = some st') (hst : st.length ≤ 10000) (hsz : SizedV st) (hvl : vs.length ≤ 9223372036854775807) :
    ∃ (kn fn : Nat), k = (kn : Int) ∧ kn < 14 ∧ doTab[kn]? = some (.func (.func fn) #[] #[]) ∧ (∀ (args : Array Value) (w' : World), (callFunc fn args).run Try.prog w' = .ok (.enter fn args) w') ∧
      ∀ (w : World) (v : Value), Rn w g B (.slice A vs.length c) v st → VarsIn w A vs → Calls Try.prog fn #[.pointer (some ⟨g, 0, none⟩), .agg #[.int .i64 k, .string tx]] w (RnPost w (Fr g B) g B (.slice A vs.length c) st' (.tuple #[])) := by
  have two : ∀ {s : List Vl} {a b : Vl}, st = s ++ [a] ++ [b] → s.length ≤ 10000 ∧ a.text.size ≤ 9223372036854775807 ∧ b.text.size ≤ 9223372036854775807 := by
    intro s a b e
    subst e
    exact ⟨by simp at hst; omega, hsz a (by simp), hsz b (by simp)⟩
  have one : ∀ {s : List Vl} {a : Vl}, st = s ++ [a] → s.length ≤ 10000 := by
    intro s a e
    subst e
    simp at hst
    omega
  unfold stepV at hs
  by_cases hk : k = 1
  · rw [if_pos hk] at hs; subst hk; injection hs with hs; subst hs
    exact ⟨1, _, rfl, by decide, rfl, enters Try.func72 (by kernel_rfl) (by kernel_rfl), fun w v h hv => do_literal g B _ v st 1 tx w h hst⟩
  rw [if_neg hk] at hs; clear hk
  by_cases hk : k = 2
  · rw [if_pos hk] at hs; subst hk; injection hs with hs; subst hs
    exact ⟨2, _, rfl, by decide, rfl, enters Try.func73 (by kernel_rfl) (by kernel_rfl), fun w v h hv => do_variable g B _ v st A c vs 2 tx w h hst rfl hv hvl⟩
  rw [if_neg hk] at hs; clear hk
  by_cases hk : k = 3
  · rw [if_pos hk] at hs; subst hk; injection hs with hs; subst hs
    exact ⟨3, _, rfl, by decide, rfl, enters Try.func74 (by kernel_rfl) (by kernel_rfl), fun w v h hv => do_defined g B _ v st A c vs 3 tx w h hst rfl hv hvl⟩
  rw [if_neg hk] at hs; clear hk
  by_cases hk : k = 4
  · rw [if_pos hk] at hs; subst hk; injection hs with hs; subst hs
    exact ⟨4, _, rfl, by decide, rfl, enters Try.func75 (by kernel_rfl) (by kernel_rfl), fun w v h hv => do_true g B _ v st tx w h hst⟩
  rw [if_neg hk] at hs; clear hk
  by_cases hk : k = 5
  · rw [if_pos hk] at hs; subst hk; injection hs with hs; subst hs
    exact ⟨5, _, rfl, by decide, rfl, enters Try.func75 (by kernel_rfl) (by kernel_rfl), fun w v h hv => do_false g B _ v st tx w h hst⟩
  rw [if_neg hk] at hs; clear hk
  by_cases hk : k = 6
  · rw [if_pos hk] at hs; subst hk; obtain ⟨s, a, e, rfl⟩ := lay1_some hs
    exact ⟨6, _, rfl, by decide, rfl, enters Try.func76 (by kernel_rfl) (by kernel_rfl), fun w v h hv => do_truth g B _ v s a 6 tx w (e ▸ h) (one e)⟩
  rw [if_neg hk] at hs; clear hk
  by_cases hk : k = 7
  · rw [if_pos hk] at hs; subst hk; obtain ⟨s, a, b, e, rfl⟩ := lay2_some hs
    exact ⟨7, _, rfl, by decide, rfl, enters Try.func77 (by kernel_rfl) (by kernel_rfl), fun w v h hv => do_eq g B _ v s a b tx w (e ▸ h) (two e).1⟩
  rw [if_neg hk] at hs; clear hk
  by_cases hk : k = 8
  · rw [if_pos hk] at hs; subst hk; obtain ⟨s, a, b, e, rfl⟩ := lay2_some hs
    exact ⟨8, _, rfl, by decide, rfl, enters Try.func77 (by kernel_rfl) (by kernel_rfl), fun w v h hv => do_ne g B _ v s a b tx w (e ▸ h) (two e).1⟩
  rw [if_neg hk] at hs; clear hk
  by_cases hk : k = 9
  · rw [if_pos hk] at hs; subst hk; obtain ⟨s, a, b, e, rfl⟩ := lay2_some hs
    exact ⟨9, _, rfl, by decide, rfl, enters Try.func78 (by kernel_rfl) (by kernel_rfl), fun w v h hv => do_match g B _ v s a b tx w (e ▸ h) (two e).1 (two e).2.1 (two e).2.2⟩
  rw [if_neg hk] at hs; clear hk
  by_cases hk : k = 10
  · rw [if_pos hk] at hs; subst hk; obtain ⟨s, a, b, e, rfl⟩ := lay2_some hs
    exact ⟨10, _, rfl, by decide, rfl, enters Try.func78 (by kernel_rfl) (by kernel_rfl), fun w v h hv => do_unlike g B _ v s a b tx w (e ▸ h) (two e).1 (two e).2.1 (two e).2.2⟩
  rw [if_neg hk] at hs; clear hk
  by_cases hk : k = 11
  · rw [if_pos hk] at hs; subst hk; obtain ⟨s, a, e, rfl⟩ := lay1_some hs
    exact ⟨11, _, rfl, by decide, rfl, enters Try.func79 (by kernel_rfl) (by kernel_rfl), fun w v h hv => do_not g B _ v s a 11 tx w (e ▸ h) (one e)⟩
  rw [if_neg hk] at hs; clear hk
  by_cases hk : k = 12
  · rw [if_pos hk] at hs; subst hk; obtain ⟨s, a, b, e, rfl⟩ := lay2_some hs
    exact ⟨12, _, rfl, by decide, rfl, enters Try.func80 (by kernel_rfl) (by kernel_rfl), fun w v h hv => do_and g B _ v s a b 12 tx w (e ▸ h) (two e).1⟩
  rw [if_neg hk] at hs; clear hk
  by_cases hk : k = 13
  · rw [if_pos hk] at hs; subst hk; obtain ⟨s, a, b, e, rfl⟩ := lay2_some hs
    exact ⟨13, _, rfl, by decide, rfl, enters Try.func81 (by kernel_rfl) (by kernel_rfl), fun w v h hv => do_or g B _ v s a b 13 tx w (e ▸ h) (two e).1⟩
  rw [if_neg hk] at hs; clear hk
  cases hs
def SayAt (w : World) (g : Nat) (vv : Value) (vs : List (ByteArray × ByteArray)) (t : List (Int × ByteArray)) (F : Option (List Vl)) (gk : Nat) (v15 : Value) (wr : World) : Prop :=
  ∃ (i : Nat) (st : List Vl) (v : Value), gk = t.length - i ∧ i ≤ t.length ∧ v15 = .int .i64 (i : Int) ∧ But (Ge g) w wr ∧ Rn wr g (g + 2) vv v st ∧ wr.heap[g + 1]? = some (.cells doTab 91 (0, 0)) ∧ SizedV st ∧ st.length ≤ i ∧ runV vs (t.drop i) st = F
set_option maxHeartbeats 8000000 in
theorem say0 (A : Option Addr) (c : Nat) (t : List (Int × ByteArray)) (A2 : Option Addr) (c2 : Nat) (vs : List (ByteArray × ByteArray)) (w : World) (hT : StepsIn w A t) (hV : VarsIn w A2 vs) (hc : t.length ≤ 9000) (hvl : vs.length ≤ 9223372036854775807)
    (hsz : ∀ q ∈ t, q.2.size ≤ 9223372036854775807) (hvs : ∀ p ∈ vs, p.2.size ≤ 9223372036854775807) (b : Bool) (hB : sayV vs t = some b) :
    Calls Try.prog 35 #[.slice A t.length c, .slice A2 vs.length c2] w fun e w' => e = .returned (.bool b) ∧ Below w.heap.size w w' := by
  have hc2 : t.length ≤ 9223372036854775807 := by omega
  obtain ⟨F, hF⟩ : ∃ F, runV vs t [] = F := ⟨_, rfl⟩
  have HF := Lib.hid hF
  have HB := Lib.hid (show F.bind (fun st => (pop1 st).map fun x => x.2.ok) = some b from by rw [← hF]; exact hB)
  have HT := Lib.hid hT
  have HV := Lib.hid hV
  have HS := Lib.hid hsz
  have HVS := Lib.hid hvs
  clear hF hB hT hsz hV hvs
  have bel : ∀ w' : World, But (Ge w.heap.size) w w' → Below w.heap.size w w' := fun _ h => h.below (fun b hb c => Nat.not_lt.2 c hb)
  have BEL := Lib.hid bel
  have hold : ∀ k, k < w.heap.size → ¬ Ge w.heap.size k := fun k h c => Nat.not_lt.2 c h
  have HOLD := Lib.hid hold
  clear bel hold
  go_enter Try.func35, Try.ntmps35
  go_wp2_with (go_at_call 53; refine (steps_0 _).mono ?_; rintro e w1 ⟨rfl, rfl⟩)
  go_loopg [15] t.length (fun gk v15 wr => SayAt w w.heap.size (.slice A2 vs.length c2) vs t F gk v15 wr)
  case atStart =>
    exact ⟨0, [], .slice none 0 0, rfl, Nat.zero_le _, rfl, ((But.refl _ w).alloc _).alloc _, ⟨heap_alloc2_old w _ _, El.own_nil _ _, by omega, by simp⟩, heap_alloc2_new w _ _, (fun q h => by cases h), Nat.le_refl _, HF.out⟩
  case round =>
    obtain ⟨i, st, v, hgk, hi, rfl, hb, hW, hTab, hSm, hln, hR⟩ := hrel
    have HGK := Lib.hid hgk
    have HR := Lib.hid hR
    have HW := Lib.hid hW
    have HBt := Lib.hid hb
    have HSm := Lib.hid hSm
    have HTab := Lib.hid hTab
    clear hgk hR hW hb hSm hTab
    by_cases hlt : i < t.length
    · obtain ⟨ad, hA, k1, k2⟩ := HT.out i hlt
      have k3 := HS.out t[i] (List.getElem_mem hlt)
      have hd : t.drop i = t[i] :: t.drop (i + 1) := List.drop_eq_getElem_cons hlt
      cases hA
      have k1' := HBt.out.cell_some k1 (HOLD.out _ (World.block_lt_of_cell? w _ k1))
      have k2' := HBt.out.cell_some k2 (HOLD.out _ (World.block_lt_of_cell? w _ k2))
      have hlt' : (i : Int) < (t.length : Int) := by omega
      have dl : decide ((i : Int) < (t.length : Int)) = true := by simp; omega
      obtain ⟨⟨kk, tx⟩, hq⟩ : ∃ q, t[i] = q := ⟨_, rfl⟩
      rw [hq] at k1' k2' k3 hd
      cases hS : stepV vs kk tx st with
      | none =>
        exfalso
        have h1 := HR.out
        rw [hd] at h1
        have h2 : runV vs ((kk, tx) :: t.drop (i + 1)) st = (stepV vs kk tx st).bind (runV vs (t.drop (i + 1))) := rfl
        rw [h2, hS] at h1
        have h3 := HB.out
        rw [← h1] at h3
        cases h3
      | some st' =>
        have HN := Lib.hid (show runV vs (t.drop (i + 1)) st' = F from by
          rw [← HR.out, hd]
          show _ = (stepV vs kk tx st).bind (runV vs (t.drop (i + 1)))
          rw [hS]
          rfl)
        have hss := stepV_sized hS HSm.out k3 HVS.out
        obtain ⟨kn, fn, rfl, hk14, htab, hent, hcall⟩ := does0 w.heap.size (w.heap.size + 2) A2 c2 vs kk tx st st' hS (by omega) HSm.out hvl
        have hfun : wr.cell? ⟨w.heap.size + 1, kn, none⟩ = some (.func (.func fn) #[] #[]) := by rw [cell_of_row wr _ _ _ _ _ HTab.out, htab]
        have HSS := Lib.hid hss
        have HC := Lib.hid hcall
        have hsz2 := HW.out.2.2.2
        have hk14' : (kn : Int) < 14 := by omega
        clear k1 k2 hq hd hS hss hcall htab
        have hw2 : Rn (wr.alloc (.cells #[.int .i64 (kn : Int), .string tx] 45)) w.heap.size (w.heap.size + 2) (.slice A2 vs.length c2) v st := HW.out.new ((But.refl No wr).alloc _)
        have hv2 : VarsIn (wr.alloc (.cells #[.int .i64 (kn : Int), .string tx] 45)) A2 vs := (HV.out.later HBt.out HOLD.out).later ((But.refl No wr).alloc _) (fun _ _ c => c)
        have HC2 := Lib.hid (HC.out _ v (hw2.new (But.refl No _).drew) (hv2.later (But.refl No _).drew (fun _ _ c => c)))
        clear hw2 hv2
        have hx0 : (wr.alloc (.cells #[.int .i64 (kn : Int), .string tx] 45)).cell? ⟨wr.heap.size, 0, none⟩ = some (.int .i64 (kn : Int)) := (cell_of_row _ _ 0 _ _ _ (heap_alloc_new wr _)).trans rfl
        have hx1 : (wr.alloc (.cells #[.int .i64 (kn : Int), .string tx] 45)).cell? ⟨wr.heap.size, 1, none⟩ = some (.string tx) := (cell_of_row _ _ 1 _ _ _ (heap_alloc_new wr _)).trans rfl
        have hx2 := ((But.refl No wr).alloc (.cells #[.int .i64 (kn : Int), .string tx] 45)).cell_some hfun (fun c => c)
        have HBA := Lib.hid (HBt.out.alloc (.cells #[.int .i64 (kn : Int), .string tx] 45))
        have HTA := Lib.hid ((((But.refl No wr).alloc (.cells #[.int .i64 (kn : Int), .string tx] 45)).block (w.heap.size + 1) (by omega) (fun c => c)).trans HTab.out)
        have hsA : (wr.alloc (.cells #[.int .i64 (kn : Int), .string tx] 45)).heap.size = wr.heap.size + 1 := by simp
        clear hfun
        go_wp2_with fail
        generalize wr.alloc (.cells #[.int .i64 (kn : Int), .string tx] 45) = wq at *
        have HSA := Lib.hid hsA
        clear hsA
        go_still_tail 7, (by kernel_rfl)
        change wpList _ _ _ _ _ wq.drew
        go_wp2_with fail
        refine HC2.out.mono ?_
        rintro e w2 ⟨rfl, hb2, v', hR2⟩
        have hz := HBt.out.size
        have HB2 := Lib.hid (((HBA.out).drew).trans_ hb2 (fun k hk c => by rcases c with c | c <;> (show w.heap.size ≤ k) <;> omega))
        have hT2 : w2.heap[w.heap.size + 1]? = some (.cells doTab 91 (0, 0)) := (hb2.block (w.heap.size + 1) (by have := HSA.out; show _ < wq.heap.size; omega) (fun c => by rcases c with c | c <;> omega)).trans HTA.out
        have HR2 := Lib.hid hR2
        have HT2 := Lib.hid hT2
        clear hb2 hR2 hT2
        go_wp2_with fail
        go_roundg (t.length - (i + 1))
        case measure => rw [HGK.out]; omega
        case rel => exact ⟨i + 1, st', v', rfl, by omega, by go_num, HB2.out, HR2.out, HT2.out, HSS.out.1, by have := HSS.out.2; omega, HN.out⟩
    · obtain rfl : i = t.length := by omega
      have hlt' : ¬ (t.length : Int) < (t.length : Int) := by omega
      have HFF := Lib.hid (show F = some st from by rw [← HR.out, List.drop_length]; rfl)
      obtain ⟨s, q, hst, hbq⟩ : ∃ s q, st = s ++ [q] ∧ b = q.ok := by
        have h3 := HB.out
        rw [HFF.out, Option.bind_some] at h3
        cases hp : pop1 st with
        | none => rw [hp] at h3; cases h3
        | some x =>
          rw [hp] at h3
          simp only [Option.map_some, Option.some.injEq] at h3
          exact ⟨x.1, x.2, pop1_some hp, h3.symm⟩
      have hs1 : s.length ≤ 10000 := by have := congrArg List.length hst; simp at this; omega
      have HBQ := Lib.hid hbq
      have hp := pop0 w.heap.size (w.heap.size + 2) (.slice A2 vs.length c2) v s q wr (hst ▸ HW.out) (by omega)
      have HP := Lib.hid hp
      have hf1 := fieldV1
      clear hst hbq hp
      go_wp2_with fail
      refine HP.out.mono ?_
      rintro e w2 ⟨rfl, hb2, v', hR2⟩
      have HB2 := Lib.hid (HBt.out.trans_ hb2 (fun k hk c => by unfold One at c; show w.heap.size ≤ k; omega))
      clear hb2 hR2
      go_wp2_with fail
      go_ret
      exact ⟨by rw [HBQ.out]; rfl, BEL.out _ HB2.out⟩
end Go.Proofs.Ytinhlaiogkmkfaa.G
end
