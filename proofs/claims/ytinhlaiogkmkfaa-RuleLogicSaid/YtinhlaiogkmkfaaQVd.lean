/- expr.Check: the walk. -/
import Derived.Test.YtinhlaiogkmkfaaQVc
namespace Go.Proofs.Ytinhlaiogkmkfaa.G
open Go.RowKit
attribute [local simp, local go_sem] alloc_drewN setCell_drewN
set_option linter.unusedVariables false
set_option linter.unusedSimpArgs false
set_option maxRecDepth 100000
def runC : List (Int × ByteArray) → List Prt → Option (List Prt)
  | [], st => some st
  | q :: r, st => (stepC st q.1 q.2).bind (runC r)
def rootC : Option (List Prt) → Bool
  | some [q] => q.truth
  | _ => false
def checkB (t : List (Int × ByteArray)) : Bool := decide (t.length ≤ 1024) && rootC (runC t [])
theorem popC_parts {st s l : List Prt} {k : Nat} {t : Bool} (h : popC st k t = some (s, l)) : st = s ++ l ∧ l.length = k ∧ ∀ q ∈ l, q.truth = t := by
  unfold popC at h
  split at h
  · cases h
  · split at h
    · rename_i h1 h2
      simp only [Option.some.injEq, Prod.mk.injEq] at h
      obtain ⟨rfl, rfl⟩ := h
      refine ⟨(List.take_append_drop _ _).symm, by simp; omega, fun q hq => ?_⟩
      have := List.all_eq_true.1 h2 q hq
      simpa using this
    · cases h
/-- A step lengthens the stack by at most one, and keeps its texts short. -/
def Small (n : Nat) (st : List Prt) : Prop := st.length ≤ n ∧ ∀ q ∈ st, q.text.size ≤ 1024
theorem Small.push {n : Nat} {st : List Prt} (h : Small n st) (q : Prt) (hq : q.text.size ≤ 1024) : Small (n + 1) (st ++ [q]) := by
  refine ⟨by simp; exact h.1, fun x hx => ?_⟩
  rcases List.mem_append.1 hx with h1 | h1
  · exact h.2 x h1
  · rw [List.mem_singleton.1 h1]; exact hq
theorem Small.popped {n : Nat} {st s l : List Prt} {k : Nat} {t : Bool} (h : Small n st) (hp : popC st k t = some (s, l)) : Small n s := by
  obtain ⟨rfl, _, _⟩ := popC_parts hp
  have := h.1
  rw [List.length_append] at this
  exact ⟨by omega, fun x hx => h.2 x (List.mem_append_left _ hx)⟩
theorem mt_small : mt.size ≤ 1024 := by decide
theorem stepC_small {n : Nat} {st st' : List Prt} {k : Int} {tx : ByteArray} (h : Small n st) (hs : stepC st k tx = some st') : Small (n + 1) st' := by
  have pop : ∀ {m : Nat} {t : Bool} {ok : List Prt → Bool}, (match popC st m t with | some (s, l) => if ok l && tx.toList.isEmpty then some (s ++ [tru]) else none | none => none) = some st' → Small (n + 1) st' := by
    intro m t ok e
    split at e
    · rename_i s l hp
      split at e
      · injection e with e
        subst e
        exact (h.popped hp).push _ mt_small
      · cases e
    · cases e
  have lift : ∀ {b : Bool} {q : Prt}, (if b then some (st ++ [q]) else none) = some st' → q.text.size ≤ 1024 → Small (n + 1) st' := by
    intro b q e hq
    split at e
    · injection e with e
      subst e
      exact h.push _ hq
    · cases e
  unfold stepC at hs
  simp only [] at hs
  split at hs
  · split at hs
    · rename_i h1
      injection hs with hs
      subst hs
      exact h.push _ h1
    · cases hs
  split at hs
  · exact lift hs mt_small
  split at hs
  · exact lift hs mt_small
  split at hs
  · exact lift hs mt_small
  split at hs
  · exact pop (ok := fun _ => true) hs
  split at hs
  · exact pop (ok := fun _ => true) hs
  split at hs
  · exact pop (ok := fun l => match l[1]? with | some q => q.lit && (checkRes q.text).2 == 0 | none => false) hs
  split at hs
  · exact pop (ok := fun _ => true) hs
  split at hs
  · exact pop (ok := fun _ => true) hs
  · cases hs
/-- Steps that come in. -/
def StepsIn (w : World) (A : Option Addr) (t : List (Int × ByteArray)) : Prop := ∀ i (hi : i < t.length), ∃ ad, A = some ad ∧ w.cell? (ad.add (i * 2)) = some (.int .i64 t[i].1) ∧ w.cell? ⟨(ad.add (i * 2)).block, (ad.add (i * 2)).off + 1, none⟩ = some (.string t[i].2)
def CheckAt (w : World) (t : List (Int × ByteArray)) (F : Option (List Prt)) (gk : Nat) (v13 : Value) (wr : World) : Prop :=
  ∃ (i : Nat) (st : List Prt) (v : Value), gk = t.length - i ∧ i ≤ t.length ∧ v13 = .int .i64 (i : Int) ∧ But (Ge w.heap.size) w wr ∧ Wk wr w.heap.size v st ∧ Small i st ∧ runC (t.drop i) st = F
set_option maxHeartbeats 8000000 in
theorem exprCheck0 (A : Option Addr) (c : Nat) (t : List (Int × ByteArray)) (w : World) (hT : StepsIn w A t) (hc : t.length ≤ 9223372036854775807) (hsz : ∀ q ∈ t, q.2.size ≤ 9223372036854775807) (B : Bool) (hB : checkB t = B) :
    Calls Try.prog 28 #[.slice A t.length c] w fun e w' => e = .returned (.bool B) ∧ Below w.heap.size w w' := by
  have hc2 : t.length ≤ 9223372036854775807 := by omega
  by_cases h1 : 1024 < t.length
  · have E := Lib.hid (show B = false from by rw [← hB]; unfold checkB; rw [decide_eq_false (by omega)]; rfl)
    have h1' : (1024 : Int) < (t.length : Int) := by omega
    have d1 : decide ((1024 : Int) < (t.length : Int)) = true := by simp; omega
    go_enter Try.func28, Try.ntmps28
    go_wp2_with fail
    go_ret
    exact ⟨by rw [E.out]; rfl, Below.refl _ _⟩
  · have h1' : ¬ (1024 : Int) < (t.length : Int) := by omega
    have d1 : decide ((1024 : Int) < (t.length : Int)) = false := by simp; omega
    obtain ⟨F, hF⟩ : ∃ F, runC t [] = F := ⟨_, rfl⟩
    have HF := Lib.hid hF
    have HB := Lib.hid (show B = rootC F from by rw [← hB, ← hF]; unfold checkB; rw [decide_eq_true (by omega)]; rfl)
    have HT := Lib.hid hT
    have HS := Lib.hid hsz
    clear hF hB hT hsz
    have bel : ∀ w' : World, But (Ge w.heap.size) w w' → Below w.heap.size w w' := fun _ h => h.below (fun b hb c => Nat.not_lt.2 c hb)
    have BEL := Lib.hid bel
    clear bel
    go_enter Try.func28, Try.ntmps28
    go_wp2_with fail
    go_loopg [13] t.length (fun gk v13 wr => CheckAt w t F gk v13 wr)
    case atStart => exact ⟨0, [], .slice none 0 0, rfl, Nat.zero_le _, rfl, (But.refl _ w).alloc _, ⟨heap_alloc_new w _, El.own_nil _ _⟩, ⟨Nat.le_refl _, fun q h => by cases h⟩, HF.out⟩
    case round =>
      obtain ⟨i, st, v, hgk, hi, rfl, hb, hW, hSm, hR⟩ := hrel
      have HGK := Lib.hid hgk
      have HR := Lib.hid hR
      have HW := Lib.hid hW
      have HBt := Lib.hid hb
      have HSm := Lib.hid hSm
      have hgc := hW.cell
      clear hgk hR hW hb hSm
      by_cases hlt : i < t.length
      · obtain ⟨ad, hA, k1, k2⟩ := HT.out i hlt
        have k3 := HS.out t[i] (List.getElem_mem hlt)
        have hd : t.drop i = t[i] :: t.drop (i + 1) := List.drop_eq_getElem_cons hlt
        cases hA
        have k1' := HBt.out.cell_some k1 (Nat.not_le.2 (World.block_lt_of_cell? w _ k1))
        have k2' := HBt.out.cell_some k2 (Nat.not_le.2 (World.block_lt_of_cell? w _ k2))
        have hlt' : (i : Int) < (t.length : Int) := by omega
        have dl : decide ((i : Int) < (t.length : Int)) = true := by simp; omega
        obtain ⟨⟨kk, tx⟩, hq⟩ : ∃ q, t[i] = q := ⟨_, rfl⟩
        rw [hq] at k1' k2' k3 hd
        obtain ⟨R, hRR⟩ : ∃ R, stepC st kk tx = R := ⟨_, rfl⟩
        have HRR := Lib.hid hRR
        have HN := Lib.hid (show runC (t.drop i) st = R.bind (runC (t.drop (i + 1))) from by rw [hd, ← hRR]; rfl)
        have hst : st.length ≤ 1024 := by have := HSm.out.1; omega
        clear k1 k2 hq hd hRR
        go_wp2_with fail
        refine (wstep0 w.heap.size st v kk tx _ (HW.out.new ((But.refl No wr).alloc _)) hst HSm.out.2 k3 R HRR.out).mono ?_
        rintro e w1 ⟨hb1, h2⟩
        have HB1 := Lib.hid (((HBt.out).alloc _).trans_ hb1 (fun _ _ c => c))
        cases R with
        | none =>
          obtain rfl := h2
          have E := Lib.hid (show B = false from by rw [HB.out, ← HR.out, HN.out]; rfl)
          clear hb1
          go_wp2_with fail
          go_ret
          exact ⟨by rw [E.out]; rfl, BEL.out _ HB1.out⟩
        | some st' =>
          obtain ⟨rfl, v', hW'⟩ := h2
          have HW' := Lib.hid hW'
          clear hb1 hW'
          go_wp2_with fail
          go_roundg (t.length - (i + 1))
          case measure => rw [HGK.out]; omega
          case rel => exact ⟨i + 1, st', v', rfl, by omega, by go_num, HB1.out, HW'.out, stepC_small HSm.out HRR.out, by rw [← HR.out, HN.out]; rfl⟩
      · obtain rfl : i = t.length := by omega
        have hlt' : ¬ (t.length : Int) < (t.length : Int) := by omega
        have HFF := Lib.hid (show F = some st from by rw [← HR.out, List.drop_length]; rfl)
        by_cases h1 : st.length = 1
        · obtain ⟨q, rfl⟩ := List.length_eq_one_iff.1 h1
          have E := Lib.hid (show B = q.truth from by rw [HB.out, HFF.out]; rfl)
          have hown := HW.out.2
          obtain ⟨gs, cs, rfl, -, -, -, -⟩ := hown.lit (by simp)
          have hq : wr.cell? ⟨gs, 0, none⟩ = some (.bool q.truth) := by simpa using hown.cell 0 q rfl 0 _ rfl
          simp only [List.length_singleton] at hgc
          clear hown h1
          go_wp2_with fail
          go_ret
          exact ⟨by rw [E.out]; rfl, BEL.out _ HBt.out⟩
        · have E := Lib.hid (show B = false from by
            rw [HB.out, HFF.out]
            match st, h1 with
            | [], _ => rfl
            | [q], h => exact absurd rfl h
            | q :: q' :: r, _ => rfl)
          obtain ⟨A', c', rfl⟩ := HW.out.2.slice
          have hl1 : ((st.length : Int) == 1) = false := by simp; omega
          clear h1
          go_wp2_with fail
          go_ret
          exact ⟨by rw [E.out]; rfl, BEL.out _ HBt.out⟩
end Go.Proofs.Ytinhlaiogkmkfaa.G
