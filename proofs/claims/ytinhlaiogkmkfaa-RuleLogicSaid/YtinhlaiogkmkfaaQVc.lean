/- expr's walk over steps: one step. -/
import Derived.Test.YtinhlaiogkmkfaaQVb
import Derived.Test.YtinhlaiogkmkfaaQGh
import Derived.Deep.RegionLaw
namespace Go.Proofs.Ytinhlaiogkmkfaa.G
open Go.RowKit
attribute [local simp, local go_sem] alloc_drewN setCell_drewN
set_option linter.unusedVariables false
set_option linter.unusedSimpArgs false
set_option maxRecDepth 100000
def mt : ByteArray := ⟨#[]⟩
/-- The k parts at the top, if they are all truths (or all texts). -/
def popC (st : List Prt) (k : Nat) (t : Bool) : Option (List Prt × List Prt) :=
  if st.length < k then none
  else if (st.drop (st.length - k)).all (fun q => q.truth == t) then some (st.take (st.length - k), st.drop (st.length - k)) else none
theorem popC_none {st : List Prt} {k : Nat} {t : Bool} (h : ¬ Has st k t) : popC st k t = none := by
  unfold popC
  by_cases h1 : st.length < k
  · rw [if_pos h1]
  · rw [if_neg h1, if_neg]
    intro h2
    refine h ⟨st.take (st.length - k), st.drop (st.length - k), (List.take_append_drop _ _).symm, by simp; omega, fun q hq => ?_⟩
    have := List.all_eq_true.1 h2 q hq
    simpa using this
theorem popC_some {st0 l : List Prt} {k : Nat} {t : Bool} (h1 : l.length = k) (h2 : ∀ q ∈ l, q.truth = t) : popC (st0 ++ l) k t = some (st0, l) := by
  subst h1
  unfold popC
  rw [if_neg (by simp), List.length_append, Nat.add_sub_cancel, List.drop_left, List.take_left, if_pos]
  rw [List.all_eq_true]
  intro q hq
  simp [h2 q hq]
def tru : Prt := ⟨true, false, mt⟩
/-- What one step does to the stack; none: it may not be. -/
def stepC (st : List Prt) (k : Int) (tx : ByteArray) : Option (List Prt) :=
  let bare : Bool := tx.toList.isEmpty
  let pop (n : Nat) (t : Bool) (ok : List Prt → Bool) : Option (List Prt) := match popC st n t with
    | some (s, l) => if ok l && bare then some (s ++ [tru]) else none
    | none => none
  if k = 1 then (if tx.size ≤ 1024 then some (st ++ [⟨false, true, tx⟩]) else none)
  else if k = 2 then (if variableB tx then some (st ++ [⟨false, false, mt⟩]) else none)
  else if k = 3 then (if variableB tx then some (st ++ [tru]) else none)
  else if k = 4 ∨ k = 5 then (if bare then some (st ++ [tru]) else none)
  else if k = 6 then pop 1 false (fun _ => true)
  else if k = 7 ∨ k = 8 then pop 2 false (fun _ => true)
  else if k = 9 ∨ k = 10 then pop 2 false (fun l => match l[1]? with | some q => q.lit && (checkRes q.text).2 == 0 | none => false)
  else if k = 11 then pop 1 true (fun _ => true)
  else if k = 12 ∨ k = 13 then pop 2 true (fun _ => true)
  else none
theorem Wk.grow {W w1 : World} {g : Nat} {v : Value} {st : List Prt} (h : Wk W g v st) (hg : W.grownBy w1 v.ownBlock) : w1.heap[g]? = some (.cells #[v] 75 (0, 0)) ∧ But (Ge g) W w1 := by
  refine ⟨(hg.block g h.lt ?_).trans h.1, (But.refl (Ge g) W).grown hg (fun k hk => .inl (Nat.le_trans (Nat.le_succ g) (h.2.lt k hk).1))⟩
  intro e
  have := (h.2.lt g e.symm).1
  omega
theorem Wk.put2 {w1 : World} {g : Nat} {v v' : Value} {st' : List Prt} (h : w1.heap[g]? = some (.cells #[v] 75 (0, 0))) (ho : prE.Own w1 (g + 1) v' st') : Wk (w1.setCell ⟨g, 0, none⟩ v') g v' st' :=
  ⟨by rw [blkset h 0 v']; rfl, ho.set (p := ⟨g, 0, none⟩) (Nat.lt_succ_self g) _⟩
theorem xcell {w W w1 : World} {g : Nat} {v : Value} {st : List Prt} {k : Int} {tx : ByteArray} (h : Wk w g v st) (hb : But No (w.alloc (.cells #[.int .i64 k, .string tx] 45)) W) (hg : W.grownBy w1 v.ownBlock) :
    w1.cell? ⟨w.heap.size, 1, none⟩ = some (.string tx) := by
  have h1 := hb.block w.heap.size (by simp) (fun c => c)
  rw [heap_alloc_new] at h1
  have h2 := hg.block w.heap.size (lt_of_block h1) (by
    intro e
    have := (h.2.lt _ e.symm).2
    omega)
  rw [cell_of_row w1 _ 1 _ _ _ (h2.trans h1)]
  rfl
theorem bools1 (w : World) (t : Bool) {b : Nat} (hb : w.heap.size = b) : ∀ i, i < 1 → (w.alloc (.cells #[.bool t] 4)).cell? ⟨b, i, none⟩ = some (.bool t) := by
  subst hb
  intro i hi
  obtain rfl : i = 0 := by omega
  rw [cell_of_row _ _ 0 _ _ _ (heap_alloc_new w _)]
  rfl
theorem bools2 (w : World) (t : Bool) {b : Nat} (hb : w.heap.size = b) : ∀ i, i < 2 → (w.alloc (.cells #[.bool t, .bool t] 4)).cell? ⟨b, i, none⟩ = some (.bool t) := by
  subst hb
  intro i hi
  rcases (by omega : i = 0 ∨ i = 1) with rfl | rfl
  · rw [cell_of_row _ _ 0 _ _ _ (heap_alloc_new w _)]
    rfl
  · rw [cell_of_row _ _ 1 _ _ _ (heap_alloc_new w _)]
    rfl
def StepPost (w : World) (g : Nat) (R : Option (List Prt)) (e : Ending) (w' : World) : Prop :=
  But (Ge g) w w' ∧ match R with
    | some st' => e = .returned (.bool true) ∧ ∃ v, Wk w' g v st'
    | none => e = .returned (.bool false)
def Mid (w : World) (g : Nat) (R : Option (List Prt)) (v5 v6 : Value) (wc : World) : Prop :=
  ∃ (bare ok : Bool) (v : Value) (st1 : List Prt), v5 = .bool bare ∧ v6 = .bool ok ∧ But (Ge g) w wc ∧ Wk wc g v st1 ∧ st1.length ≤ 1024 ∧ R = if ok && bare then some (st1 ++ [tru]) else none
set_option maxHeartbeats 16000000 in
theorem wstep0 (g : Nat) (st : List Prt) (v : Value) (k : Int) (tx : ByteArray) (w : World) (h : Wk w g v st) (hst : st.length ≤ 1024) (hsz : ∀ q ∈ st, q.text.size ≤ 1024) (htx : tx.size ≤ 9223372036854775807) (R : Option (List Prt)) (hR : stepC st k tx = R) :
    Calls Try.prog 46 #[.pointer (some ⟨g, 0, none⟩), .agg #[.int .i64 k, .string tx]] w (StepPost w g R) := by
  have htx2 : tx.size ≤ 9223372036854775807 := by omega
  have hgl := h.lt
  have HR := Lib.hid hR
  clear hR
  obtain ⟨eb, heb⟩ : ∃ eb : Bool, tx.toList.isEmpty = eb := ⟨_, rfl⟩
  have HEB := Lib.hid heb
  go_enter Try.func46, Try.ntmps46
  go_upto_block 0 with (fail)
  go_cut [5, 6] (fun v5 v6 wc => Mid w g R v5 v6 wc)
  case first =>
    have HW := Lib.hid h
    have hg0 := h.cell
    have hgf := h.free 0
    have HST := Lib.hid hsz
    clear h hsz
    rcases (by omega : k = 1 ∨ k = 2 ∨ k = 3 ∨ k = 4 ∨ k = 5 ∨ k = 6 ∨ k = 7 ∨ k = 8 ∨ k = 9 ∨ k = 10 ∨ k = 11 ∨ k = 12 ∨ k = 13 ∨ (k < 1 ∨ 13 < k)) with rfl | rfl | rfl | rfl | rfl | rfl | rfl | rfl | rfl | rfl | rfl | rfl | rfl | hk
    · have hne : ¬ w.heap.size = g := by omega
      by_cases hs1 : tx.size ≤ 1024
      · have E := Lib.hid (show R = some (st ++ [⟨false, true, tx⟩]) from by rw [← HR.out]; simp [stepC, hs1])
        have hs1' : (tx.size : Int) ≤ 1024 := by omega
        have d1 : decide ((tx.size : Int) ≤ 1024) = true := by simp; omega
        go_wp2_with fail
        go_region_law ((refine prE.step1 rfl _ _ rfl rfl (g + 1) v st rfl (HW.out.2.new ((((But.refl No w).alloc _).drew).alloc _)) (w.heap.size + 1) ⟨false, true, tx⟩ #[.bool false, .bool true, .string tx] rfl rfl (heap_alloc2_new w _ _) (by show (st.length + 1) * (24 + 1) ≤ _; omega) (by simp; omega) ?_; intro g2 c2 w1 hown hgrow; (have hq := (HW.out.new ((((But.refl No w).alloc _).drew).alloc _)).grow hgrow); (have hq1 : w1.cell? ⟨g, 0, none⟩ = some v := cell_of_row w1 g 0 _ _ _ hq.1); (have hq2 := blkfree hq.1 0); (have hx : w1.cell? ⟨w.heap.size, 1, none⟩ = some (.string tx) := xcell HW.out (((But.refl No _).drew).alloc _) hgrow); (have HQ := Lib.hid hq); (have HP := Lib.hid (Wk.put2 hq.1 hown)); clear hq hgrow hown))
        all_goals
          go_wp2_with fail
          go_ret
          refine ⟨(((((But.refl _ w).alloc _).drew).alloc _).trans HQ.out.2).setCell (p := ⟨g, 0, none⟩) (.inl (Nat.le_refl g)) _, ?_⟩
          rw [E.out]
          exact ⟨rfl, _, HP.out⟩
      · have E := Lib.hid (show R = none from by rw [← HR.out]; simp [stepC, hs1])
        have hs1' : ¬ (tx.size : Int) ≤ 1024 := by omega
        have d1 : decide ((tx.size : Int) ≤ 1024) = false := by simp; omega
        go_wp2_with fail
        go_region_law ((refine prE.step1 rfl _ _ rfl rfl (g + 1) v st rfl (HW.out.2.new ((((But.refl No w).alloc _).drew).alloc _)) (w.heap.size + 1) ⟨false, true, tx⟩ #[.bool false, .bool true, .string tx] rfl rfl (heap_alloc2_new w _ _) (by show (st.length + 1) * (24 + 1) ≤ _; omega) (by simp; omega) ?_; intro g2 c2 w1 hown hgrow; (have hq := (HW.out.new ((((But.refl No w).alloc _).drew).alloc _)).grow hgrow); (have hq1 : w1.cell? ⟨g, 0, none⟩ = some v := cell_of_row w1 g 0 _ _ _ hq.1); (have hq2 := blkfree hq.1 0); (have hx : w1.cell? ⟨w.heap.size, 1, none⟩ = some (.string tx) := xcell HW.out (((But.refl No _).drew).alloc _) hgrow); (have HQ := Lib.hid hq); (have HP := Lib.hid (Wk.put2 hq.1 hown)); clear hq hgrow hown))
        all_goals
          go_wp2_with fail
          go_ret
          refine ⟨(((((But.refl _ w).alloc _).drew).alloc _).trans HQ.out.2).setCell (p := ⟨g, 0, none⟩) (.inl (Nat.le_refl g)) _, ?_⟩
          rw [E.out]
          rfl
    · have hne : ¬ w.heap.size = g := by omega
      cases hv : variableB tx with
      | false =>
        have E := Lib.hid (show R = none from by rw [← HR.out]; simp [stepC, hv])
        have hvv := fun w2 => variable0 tx w2 htx
        rw [hv] at hvv
        have HV := Lib.hid hvv
        clear hv hvv
        go_wp2_with (first | (go_at_call 64; refine (HV.out _).mono ?_; rintro e w2 ⟨rfl, rfl⟩) | (refine prE.append1 rfl _ _ rfl rfl (g + 1) v st rfl (HW.out.2.new (((But.refl No w).alloc _).alloc _)) (w.heap.size + 1) ⟨false, false, mt⟩ #[.bool false, .bool false, .string mt] rfl rfl (heap_alloc2_new w _ _) (by show (st.length + 1) * (24 + 1) ≤ _; omega) (by simp; omega) ?_; intro g2 c2 w1 hown hgrow; (have hq := (HW.out.new (((But.refl No w).alloc _).alloc _)).grow hgrow); (have hq1 : w1.cell? ⟨g, 0, none⟩ = some v := cell_of_row w1 g 0 _ _ _ hq.1); (have hq2 := blkfree hq.1 0); (have hx : w1.cell? ⟨w.heap.size, 1, none⟩ = some (.string tx) := xcell HW.out ((But.refl No _).alloc _) hgrow); (have HQ := Lib.hid hq); (have HP := Lib.hid (Wk.put2 hq.1 hown)); clear hq hgrow hown))
        go_ret
        refine ⟨((((But.refl _ w).alloc _).alloc _).trans HQ.out.2).setCell (p := ⟨g, 0, none⟩) (.inl (Nat.le_refl g)) _, ?_⟩
        rw [E.out]
        rfl
      | true =>
        have E := Lib.hid (show R = some (st ++ [⟨false, false, mt⟩]) from by rw [← HR.out]; simp [stepC, hv])
        have hvv := fun w2 => variable0 tx w2 htx
        rw [hv] at hvv
        have HV := Lib.hid hvv
        clear hv hvv
        go_wp2_with (first | (go_at_call 64; refine (HV.out _).mono ?_; rintro e w2 ⟨rfl, rfl⟩) | (refine prE.append1 rfl _ _ rfl rfl (g + 1) v st rfl (HW.out.2.new (((But.refl No w).alloc _).alloc _)) (w.heap.size + 1) ⟨false, false, mt⟩ #[.bool false, .bool false, .string mt] rfl rfl (heap_alloc2_new w _ _) (by show (st.length + 1) * (24 + 1) ≤ _; omega) (by simp; omega) ?_; intro g2 c2 w1 hown hgrow; (have hq := (HW.out.new (((But.refl No w).alloc _).alloc _)).grow hgrow); (have hq1 : w1.cell? ⟨g, 0, none⟩ = some v := cell_of_row w1 g 0 _ _ _ hq.1); (have hq2 := blkfree hq.1 0); (have hx : w1.cell? ⟨w.heap.size, 1, none⟩ = some (.string tx) := xcell HW.out ((But.refl No _).alloc _) hgrow); (have HQ := Lib.hid hq); (have HP := Lib.hid (Wk.put2 hq.1 hown)); clear hq hgrow hown))
        go_ret
        refine ⟨((((But.refl _ w).alloc _).alloc _).trans HQ.out.2).setCell (p := ⟨g, 0, none⟩) (.inl (Nat.le_refl g)) _, ?_⟩
        rw [E.out]
        exact ⟨rfl, _, HP.out⟩
    · obtain ⟨b, hv⟩ : ∃ b, variableB tx = b := ⟨_, rfl⟩
      have E := Lib.hid (show R = if b && true then some (st ++ [tru]) else none from by rw [← HR.out]; simp [stepC, hv])
      have hvv := fun w2 => variable0 tx w2 htx
      rw [hv] at hvv
      have HV := Lib.hid hvv
      clear hv hvv
      go_wp2_with (go_at_call 64; refine (HV.out _).mono ?_; rintro e w2 ⟨rfl, rfl⟩)
      go_meet
      case rel => exact ⟨true, b, v, st, rfl, rfl, (But.refl _ w).alloc _, HW.out.new ((But.refl No w).alloc _), hst, E.out⟩
    · have E := Lib.hid (show R = if true && eb then some (st ++ [tru]) else none from by rw [← HR.out, ← HEB.out]; simp [stepC])
      go_wp2_with fail
      go_meet
      case rel => exact ⟨eb, true, v, st, rfl, rfl, (But.refl _ w).alloc _, HW.out.new ((But.refl No w).alloc _), hst, E.out⟩
    · have E := Lib.hid (show R = if true && eb then some (st ++ [tru]) else none from by rw [← HR.out, ← HEB.out]; simp [stepC])
      go_wp2_with fail
      go_meet
      case rel => exact ⟨eb, true, v, st, rfl, rfl, (But.refl _ w).alloc _, HW.out.new ((But.refl No w).alloc _), hst, E.out⟩
    · have HR2 := Lib.hid (show stepC st 6 tx = (match popC st 1 false with | some (s, l) => if true && eb then some (s ++ [tru]) else none | none => none) from by rw [← HEB.out]; rfl)
      go_wp2_with fail
      refine (takes0 g st v (w.heap.size + 1) 1 false _ (HW.out.new (((But.refl No w).alloc _).alloc _)) hst (by decide) (by decide) (by omega) (by simp) (bools1 _ false (by simp))).mono ?_
      rintro e w2 ⟨hbt, h2⟩
      rcases h2 with ⟨rfl, ⟨v2, hW2⟩, hN⟩ | ⟨st0, l, vl, v2, e1, e2, e3, rfl, hL, hW2⟩
      · have E := Lib.hid (show R = if false && eb then some (st ++ [tru]) else none from by rw [← HR.out, HR2.out, popC_none hN]; rfl)
        have HW2 := Lib.hid hW2
        have HBT := Lib.hid hbt
        clear hN hW2 hbt
        go_wp2_with fail
        go_meet
        case rel => exact ⟨eb, false, v2, st, rfl, rfl, (((But.refl _ w).alloc _).alloc _).trans_ HBT.out (fun _ _ c => c), HW2.out, hst, E.out⟩
      · have E := Lib.hid (show R = if true && eb then some (st0 ++ [tru]) else none from by rw [← HR.out, HR2.out, e1, popC_some e2 e3])
        have hl0 : st0.length ≤ 1024 := by have := congrArg List.length e1; rw [List.length_append] at this; omega
        have HW2 := Lib.hid hW2
        have HBT := Lib.hid hbt
        clear e1 e2 e3 hL hW2 hbt
        go_wp2_with fail
        go_meet
        case rel => exact ⟨eb, true, v2, st0, rfl, rfl, (((But.refl _ w).alloc _).alloc _).trans_ HBT.out (fun _ _ c => c), HW2.out, hl0, E.out⟩
    · have HR2 := Lib.hid (show stepC st 7 tx = (match popC st 2 false with | some (s, l) => if true && eb then some (s ++ [tru]) else none | none => none) from by rw [← HEB.out]; rfl)
      go_wp2_with fail
      refine (takes0 g st v (w.heap.size + 1) 2 false _ (HW.out.new (((But.refl No w).alloc _).alloc _)) hst (by decide) (by decide) (by omega) (by simp) (bools2 _ false (by simp))).mono ?_
      rintro e w2 ⟨hbt, h2⟩
      rcases h2 with ⟨rfl, ⟨v2, hW2⟩, hN⟩ | ⟨st0, l, vl, v2, e1, e2, e3, rfl, hL, hW2⟩
      · have E := Lib.hid (show R = if false && eb then some (st ++ [tru]) else none from by rw [← HR.out, HR2.out, popC_none hN]; rfl)
        have HW2 := Lib.hid hW2
        have HBT := Lib.hid hbt
        clear hN hW2 hbt
        go_wp2_with fail
        go_meet
        case rel => exact ⟨eb, false, v2, st, rfl, rfl, (((But.refl _ w).alloc _).alloc _).trans_ HBT.out (fun _ _ c => c), HW2.out, hst, E.out⟩
      · have E := Lib.hid (show R = if true && eb then some (st0 ++ [tru]) else none from by rw [← HR.out, HR2.out, e1, popC_some e2 e3])
        have hl0 : st0.length ≤ 1024 := by have := congrArg List.length e1; rw [List.length_append] at this; omega
        have HW2 := Lib.hid hW2
        have HBT := Lib.hid hbt
        clear e1 e2 e3 hL hW2 hbt
        go_wp2_with fail
        go_meet
        case rel => exact ⟨eb, true, v2, st0, rfl, rfl, (((But.refl _ w).alloc _).alloc _).trans_ HBT.out (fun _ _ c => c), HW2.out, hl0, E.out⟩
    · have HR2 := Lib.hid (show stepC st 8 tx = (match popC st 2 false with | some (s, l) => if true && eb then some (s ++ [tru]) else none | none => none) from by rw [← HEB.out]; rfl)
      go_wp2_with fail
      refine (takes0 g st v (w.heap.size + 1) 2 false _ (HW.out.new (((But.refl No w).alloc _).alloc _)) hst (by decide) (by decide) (by omega) (by simp) (bools2 _ false (by simp))).mono ?_
      rintro e w2 ⟨hbt, h2⟩
      rcases h2 with ⟨rfl, ⟨v2, hW2⟩, hN⟩ | ⟨st0, l, vl, v2, e1, e2, e3, rfl, hL, hW2⟩
      · have E := Lib.hid (show R = if false && eb then some (st ++ [tru]) else none from by rw [← HR.out, HR2.out, popC_none hN]; rfl)
        have HW2 := Lib.hid hW2
        have HBT := Lib.hid hbt
        clear hN hW2 hbt
        go_wp2_with fail
        go_meet
        case rel => exact ⟨eb, false, v2, st, rfl, rfl, (((But.refl _ w).alloc _).alloc _).trans_ HBT.out (fun _ _ c => c), HW2.out, hst, E.out⟩
      · have E := Lib.hid (show R = if true && eb then some (st0 ++ [tru]) else none from by rw [← HR.out, HR2.out, e1, popC_some e2 e3])
        have hl0 : st0.length ≤ 1024 := by have := congrArg List.length e1; rw [List.length_append] at this; omega
        have HW2 := Lib.hid hW2
        have HBT := Lib.hid hbt
        clear e1 e2 e3 hL hW2 hbt
        go_wp2_with fail
        go_meet
        case rel => exact ⟨eb, true, v2, st0, rfl, rfl, (((But.refl _ w).alloc _).alloc _).trans_ HBT.out (fun _ _ c => c), HW2.out, hl0, E.out⟩
    · have HR2 := Lib.hid (show stepC st 9 tx = (match popC st 2 false with | some (s, l) => if (match l[1]? with | some q => q.lit && (checkRes q.text).2 == 0 | none => false) && eb then some (s ++ [tru]) else none | none => none) from by rw [← HEB.out]; rfl)
      go_wp2_with fail
      refine (takes0 g st v (w.heap.size + 1) 2 false _ (HW.out.new (((But.refl No w).alloc _).alloc _)) hst (by decide) (by decide) (by omega) (by simp) (bools2 _ false (by simp))).mono ?_
      rintro e w2 ⟨hbt, h2⟩
      rcases h2 with ⟨rfl, ⟨v2, hW2⟩, hN⟩ | ⟨st0, l, vl, v2, e1, e2, e3, rfl, ⟨lb, lc, rfl, hL⟩, hW2⟩
      · have E := Lib.hid (show R = if false && eb then some (st ++ [tru]) else none from by rw [← HR.out, HR2.out, popC_none hN]; rfl)
        have HW2 := Lib.hid hW2
        have HBT := Lib.hid hbt
        clear hN hW2 hbt
        go_wp2_with fail
        go_meet
        case rel => exact ⟨eb, false, v2, st, rfl, rfl, (((But.refl _ w).alloc _).alloc _).trans_ HBT.out (fun _ _ c => c), HW2.out, hst, E.out⟩
      · have hl0 : st0.length ≤ 1024 := by have := congrArg List.length e1; rw [List.length_append] at this; omega
        have h1 : l[1]? = some l[1] := List.getElem?_eq_getElem (by omega)
        obtain ⟨q, hq⟩ : ∃ q, l[1] = q := ⟨_, rfl⟩
        rw [hq] at h1
        have hE := fun (b : Bool) (hb : (q.lit && (checkRes q.text).2 == 0) = b) => show R = if b && eb then some (st0 ++ [tru]) else none from by rw [← HR.out, HR2.out, e1, popC_some e2 e3]; simp only [h1, hb]
        have hqs : q.text.size ≤ 1024 := HST.out q (by rw [e1]; exact List.mem_append_right _ (List.mem_of_getElem? h1))
        obtain ⟨-, c2, c3⟩ := hL 1 q h1
        rw [show l.length = 2 from e2]
        have HW2 := Lib.hid hW2
        have HBT := Lib.hid hbt
        have HE := Lib.hid hE
        obtain ⟨tq, htq⟩ : ∃ tq, q.text = tq := ⟨_, rfl⟩
        obtain ⟨lq, hlq⟩ : ∃ lq, q.lit = lq := ⟨_, rfl⟩
        rw [htq] at c3 hqs
        rw [hlq] at c2
        have HTQ := Lib.hid htq
        have HLQ := Lib.hid hlq
        clear e1 e2 e3 hL hW2 hbt h1 hq hE htq hlq
        cases lq with
        | false =>
          have E := Lib.hid (HE.out false (by rw [HLQ.out]; rfl))
          go_wp2_with fail
          go_meet
          case rel => exact ⟨eb, false, v2, st0, rfl, rfl, (((But.refl _ w).alloc _).alloc _).trans_ HBT.out (fun _ _ c => c), HW2.out, hl0, E.out⟩
        | true =>
          have E := Lib.hid (HE.out ((checkRes tq).2 == 0) (by rw [HLQ.out, HTQ.out]; rfl))
          obtain ⟨ce, hce⟩ : ∃ ce : Int, (checkRes tq).2 = ce := ⟨_, rfl⟩
          have hck := fun w3 => check0 tq w3 (by omega)
          rw [hce] at hck
          have HCK := Lib.hid hck
          have HCE := Lib.hid hce
          clear hck hce
          go_wp2_with (go_at_call 66; refine (HCK.out _).mono ?_; rintro e w3 ⟨rfl, hb3⟩)
          go_meet
          case rel => exact ⟨eb, _, v2, st0, rfl, rfl, ((((But.refl _ w).alloc _).alloc _).trans_ HBT.out (fun _ _ c => c)).trans_ hb3 (fun _ _ c => c.elim), HW2.out.new hb3, hl0, by rw [E.out, HCE.out]⟩
    · have HR2 := Lib.hid (show stepC st 10 tx = (match popC st 2 false with | some (s, l) => if (match l[1]? with | some q => q.lit && (checkRes q.text).2 == 0 | none => false) && eb then some (s ++ [tru]) else none | none => none) from by rw [← HEB.out]; rfl)
      go_wp2_with fail
      refine (takes0 g st v (w.heap.size + 1) 2 false _ (HW.out.new (((But.refl No w).alloc _).alloc _)) hst (by decide) (by decide) (by omega) (by simp) (bools2 _ false (by simp))).mono ?_
      rintro e w2 ⟨hbt, h2⟩
      rcases h2 with ⟨rfl, ⟨v2, hW2⟩, hN⟩ | ⟨st0, l, vl, v2, e1, e2, e3, rfl, ⟨lb, lc, rfl, hL⟩, hW2⟩
      · have E := Lib.hid (show R = if false && eb then some (st ++ [tru]) else none from by rw [← HR.out, HR2.out, popC_none hN]; rfl)
        have HW2 := Lib.hid hW2
        have HBT := Lib.hid hbt
        clear hN hW2 hbt
        go_wp2_with fail
        go_meet
        case rel => exact ⟨eb, false, v2, st, rfl, rfl, (((But.refl _ w).alloc _).alloc _).trans_ HBT.out (fun _ _ c => c), HW2.out, hst, E.out⟩
      · have hl0 : st0.length ≤ 1024 := by have := congrArg List.length e1; rw [List.length_append] at this; omega
        have h1 : l[1]? = some l[1] := List.getElem?_eq_getElem (by omega)
        obtain ⟨q, hq⟩ : ∃ q, l[1] = q := ⟨_, rfl⟩
        rw [hq] at h1
        have hE := fun (b : Bool) (hb : (q.lit && (checkRes q.text).2 == 0) = b) => show R = if b && eb then some (st0 ++ [tru]) else none from by rw [← HR.out, HR2.out, e1, popC_some e2 e3]; simp only [h1, hb]
        have hqs : q.text.size ≤ 1024 := HST.out q (by rw [e1]; exact List.mem_append_right _ (List.mem_of_getElem? h1))
        obtain ⟨-, c2, c3⟩ := hL 1 q h1
        rw [show l.length = 2 from e2]
        have HW2 := Lib.hid hW2
        have HBT := Lib.hid hbt
        have HE := Lib.hid hE
        obtain ⟨tq, htq⟩ : ∃ tq, q.text = tq := ⟨_, rfl⟩
        obtain ⟨lq, hlq⟩ : ∃ lq, q.lit = lq := ⟨_, rfl⟩
        rw [htq] at c3 hqs
        rw [hlq] at c2
        have HTQ := Lib.hid htq
        have HLQ := Lib.hid hlq
        clear e1 e2 e3 hL hW2 hbt h1 hq hE htq hlq
        cases lq with
        | false =>
          have E := Lib.hid (HE.out false (by rw [HLQ.out]; rfl))
          go_wp2_with fail
          go_meet
          case rel => exact ⟨eb, false, v2, st0, rfl, rfl, (((But.refl _ w).alloc _).alloc _).trans_ HBT.out (fun _ _ c => c), HW2.out, hl0, E.out⟩
        | true =>
          have E := Lib.hid (HE.out ((checkRes tq).2 == 0) (by rw [HLQ.out, HTQ.out]; rfl))
          obtain ⟨ce, hce⟩ : ∃ ce : Int, (checkRes tq).2 = ce := ⟨_, rfl⟩
          have hck := fun w3 => check0 tq w3 (by omega)
          rw [hce] at hck
          have HCK := Lib.hid hck
          have HCE := Lib.hid hce
          clear hck hce
          go_wp2_with (go_at_call 66; refine (HCK.out _).mono ?_; rintro e w3 ⟨rfl, hb3⟩)
          go_meet
          case rel => exact ⟨eb, _, v2, st0, rfl, rfl, ((((But.refl _ w).alloc _).alloc _).trans_ HBT.out (fun _ _ c => c)).trans_ hb3 (fun _ _ c => c.elim), HW2.out.new hb3, hl0, by rw [E.out, HCE.out]⟩
    · have HR2 := Lib.hid (show stepC st 11 tx = (match popC st 1 true with | some (s, l) => if true && eb then some (s ++ [tru]) else none | none => none) from by rw [← HEB.out]; rfl)
      go_wp2_with fail
      refine (takes0 g st v (w.heap.size + 1) 1 true _ (HW.out.new (((But.refl No w).alloc _).alloc _)) hst (by decide) (by decide) (by omega) (by simp) (bools1 _ true (by simp))).mono ?_
      rintro e w2 ⟨hbt, h2⟩
      rcases h2 with ⟨rfl, ⟨v2, hW2⟩, hN⟩ | ⟨st0, l, vl, v2, e1, e2, e3, rfl, hL, hW2⟩
      · have E := Lib.hid (show R = if false && eb then some (st ++ [tru]) else none from by rw [← HR.out, HR2.out, popC_none hN]; rfl)
        have HW2 := Lib.hid hW2
        have HBT := Lib.hid hbt
        clear hN hW2 hbt
        go_wp2_with fail
        go_meet
        case rel => exact ⟨eb, false, v2, st, rfl, rfl, (((But.refl _ w).alloc _).alloc _).trans_ HBT.out (fun _ _ c => c), HW2.out, hst, E.out⟩
      · have E := Lib.hid (show R = if true && eb then some (st0 ++ [tru]) else none from by rw [← HR.out, HR2.out, e1, popC_some e2 e3])
        have hl0 : st0.length ≤ 1024 := by have := congrArg List.length e1; rw [List.length_append] at this; omega
        have HW2 := Lib.hid hW2
        have HBT := Lib.hid hbt
        clear e1 e2 e3 hL hW2 hbt
        go_wp2_with fail
        go_meet
        case rel => exact ⟨eb, true, v2, st0, rfl, rfl, (((But.refl _ w).alloc _).alloc _).trans_ HBT.out (fun _ _ c => c), HW2.out, hl0, E.out⟩
    · have HR2 := Lib.hid (show stepC st 12 tx = (match popC st 2 true with | some (s, l) => if true && eb then some (s ++ [tru]) else none | none => none) from by rw [← HEB.out]; rfl)
      go_wp2_with fail
      refine (takes0 g st v (w.heap.size + 1) 2 true _ (HW.out.new (((But.refl No w).alloc _).alloc _)) hst (by decide) (by decide) (by omega) (by simp) (bools2 _ true (by simp))).mono ?_
      rintro e w2 ⟨hbt, h2⟩
      rcases h2 with ⟨rfl, ⟨v2, hW2⟩, hN⟩ | ⟨st0, l, vl, v2, e1, e2, e3, rfl, hL, hW2⟩
      · have E := Lib.hid (show R = if false && eb then some (st ++ [tru]) else none from by rw [← HR.out, HR2.out, popC_none hN]; rfl)
        have HW2 := Lib.hid hW2
        have HBT := Lib.hid hbt
        clear hN hW2 hbt
        go_wp2_with fail
        go_meet
        case rel => exact ⟨eb, false, v2, st, rfl, rfl, (((But.refl _ w).alloc _).alloc _).trans_ HBT.out (fun _ _ c => c), HW2.out, hst, E.out⟩
      · have E := Lib.hid (show R = if true && eb then some (st0 ++ [tru]) else none from by rw [← HR.out, HR2.out, e1, popC_some e2 e3])
        have hl0 : st0.length ≤ 1024 := by have := congrArg List.length e1; rw [List.length_append] at this; omega
        have HW2 := Lib.hid hW2
        have HBT := Lib.hid hbt
        clear e1 e2 e3 hL hW2 hbt
        go_wp2_with fail
        go_meet
        case rel => exact ⟨eb, true, v2, st0, rfl, rfl, (((But.refl _ w).alloc _).alloc _).trans_ HBT.out (fun _ _ c => c), HW2.out, hl0, E.out⟩
    · have HR2 := Lib.hid (show stepC st 13 tx = (match popC st 2 true with | some (s, l) => if true && eb then some (s ++ [tru]) else none | none => none) from by rw [← HEB.out]; rfl)
      go_wp2_with fail
      refine (takes0 g st v (w.heap.size + 1) 2 true _ (HW.out.new (((But.refl No w).alloc _).alloc _)) hst (by decide) (by decide) (by omega) (by simp) (bools2 _ true (by simp))).mono ?_
      rintro e w2 ⟨hbt, h2⟩
      rcases h2 with ⟨rfl, ⟨v2, hW2⟩, hN⟩ | ⟨st0, l, vl, v2, e1, e2, e3, rfl, hL, hW2⟩
      · have E := Lib.hid (show R = if false && eb then some (st ++ [tru]) else none from by rw [← HR.out, HR2.out, popC_none hN]; rfl)
        have HW2 := Lib.hid hW2
        have HBT := Lib.hid hbt
        clear hN hW2 hbt
        go_wp2_with fail
        go_meet
        case rel => exact ⟨eb, false, v2, st, rfl, rfl, (((But.refl _ w).alloc _).alloc _).trans_ HBT.out (fun _ _ c => c), HW2.out, hst, E.out⟩
      · have E := Lib.hid (show R = if true && eb then some (st0 ++ [tru]) else none from by rw [← HR.out, HR2.out, e1, popC_some e2 e3])
        have hl0 : st0.length ≤ 1024 := by have := congrArg List.length e1; rw [List.length_append] at this; omega
        have HW2 := Lib.hid hW2
        have HBT := Lib.hid hbt
        clear e1 e2 e3 hL hW2 hbt
        go_wp2_with fail
        go_meet
        case rel => exact ⟨eb, true, v2, st0, rfl, rfl, (((But.refl _ w).alloc _).alloc _).trans_ HBT.out (fun _ _ c => c), HW2.out, hl0, E.out⟩
    · have k1 : (k == 1) = false := by simp; omega
      have k2 : (k == 2) = false := by simp; omega
      have k3 : (k == 3) = false := by simp; omega
      have k4 : (k == 4) = false := by simp; omega
      have k5 : (k == 5) = false := by simp; omega
      have k6 : (k == 6) = false := by simp; omega
      have k7 : (k == 7) = false := by simp; omega
      have k8 : (k == 8) = false := by simp; omega
      have k9 : (k == 9) = false := by simp; omega
      have k10 : (k == 10) = false := by simp; omega
      have k11 : (k == 11) = false := by simp; omega
      have k12 : (k == 12) = false := by simp; omega
      have k13 : (k == 13) = false := by simp; omega
      have E := Lib.hid (show R = if false && eb then some (st ++ [tru]) else none from by
        rw [← HR.out]
        unfold stepC
        simp only []
        rw [if_neg (by omega), if_neg (by omega), if_neg (by omega), if_neg (by omega), if_neg (by omega), if_neg (by omega), if_neg (by omega), if_neg (by omega), if_neg (by omega)]
        rfl)
      clear hk
      go_wp2_with fail
      go_meet
      case rel => exact ⟨eb, false, v, st, rfl, rfl, (But.refl _ w).alloc _, HW.out.new ((But.refl No w).alloc _), hst, E.out⟩
  case rest =>
    obtain ⟨bare, ok, v1, st1, rfl, rfl, hb1, hW1, hl1, hR1⟩ := hcut
    have HR1 := Lib.hid hR1
    have hc1 := hW1.cell
    have hf1 := hW1.free 0
    have hz := hW1.lt
    have HO := Lib.hid hW1.2
    have HW := Lib.hid hW1
    have HB := Lib.hid hb1
    clear hR1 hW1 hb1 h
    cases ok <;> cases bare
    all_goals
      go_wp2_with (refine prE.append1 rfl _ _ rfl rfl (g + 1) v1 st1 rfl (HO.out.alloc _) wc.heap.size tru #[.bool true, .bool false, .string mt] rfl rfl (heap_alloc_new _ _) (by show (st1.length + 1) * (24 + 1) ≤ _; omega) (by simp; omega) ?_; intro g2 c2 w1 hown hgrow; (have hq := (HW.out.new ((But.refl No wc).alloc _)).grow hgrow); (have hq1 := cell_of_row w1 g 0 _ _ _ hq.1); (have hq2 := blkfree hq.1 0); (have HQ := Lib.hid hq); (have HP := Lib.hid (Wk.put2 hq.1 hown)); clear hq hgrow hown)
      go_ret
      refine ⟨((HB.out.alloc _).trans HQ.out.2).setCell (p := ⟨g, 0, none⟩) (.inl (Nat.le_refl g)) _, ?_⟩
      rw [HR1.out]
      first | rfl | exact ⟨rfl, _, HP.out⟩
end Go.Proofs.Ytinhlaiogkmkfaa.G
