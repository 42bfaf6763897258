/- expr's walk over steps: the stack, and what is taken from it. -/
import Derived.Test.YtinhlaiogkmkfaaQVa
import Derived.Test.YtinhlaiogkmkfaaQEl
import Derived.Deep.LoopGhost
import Derived.Laws.EntriesVeiled
import Derived.Outline
namespace Go.Proofs.Ytinhlaiogkmkfaa.G
open Go.RowKit
attribute [local simp, local go_sem] alloc_drewN setCell_drewN
set_option linter.unusedVariables false
set_option linter.unusedSimpArgs false
set_option maxRecDepth 100000
/-- A part that was gone through. -/
structure Prt where
  truth : Bool
  lit : Bool
  text : ByteArray
def prE : El Try.prog 78 73 Prt where
  enc q := [.bool q.truth, .bool q.lit, .string q.text]
  sz := 3
  wd := 24
  zero := .agg #[.bool false, .bool false, .string ByteArray.empty]
  hpos := by decide
  henc _ := rfl
  hone q u hu := by
    simp only [List.mem_cons, List.not_mem_nil, or_false] at hu
    rcases hu with rfl | rfl | rfl <;> rfl
  hi := by kernel_rfl
  hzs := rfl
  hu := Try.underlying73
def Ge (g : Nat) : Nat → Prop := fun k => g ≤ k
/-- The walk at block g holds the stack st in the slice v. -/
def Wk (w : World) (g : Nat) (v : Value) (st : List Prt) : Prop := w.heap[g]? = some (.cells #[v] 75 (0, 0)) ∧ prE.Own w (g + 1) v st
theorem Wk.lt {w : World} {g : Nat} {v : Value} {st : List Prt} (h : Wk w g v st) : g < w.heap.size := lt_of_block h.1
theorem Wk.cell {w : World} {g : Nat} {v : Value} {st : List Prt} (h : Wk w g v st) : w.cell? ⟨g, 0, none⟩ = some v := by
  rw [cell_of_row w g 0 _ _ _ h.1]
  rfl
theorem Wk.free {w : World} {g : Nat} {v : Value} {st : List Prt} (h : Wk w g v st) (i : Nat) : w.frozen? ⟨g, i, none⟩ = false := blkfree h.1 i
theorem Wk.new {w w' : World} {g : Nat} {v : Value} {st : List Prt} (h : Wk w g v st) (hb : But No w w') : Wk w' g v st :=
  ⟨(hb.block g h.lt (fun c => c)).trans h.1, h.2.new hb⟩
theorem Wk.put {w : World} {g : Nat} {v v' : Value} {st st' : List Prt} (h : Wk w g v st) (ho : prE.Own w (g + 1) v' st') : Wk (w.setCell ⟨g, 0, none⟩ v') g v' st' :=
  ⟨by rw [blkset h.1 0 v']; rfl, ho.set (p := ⟨g, 0, none⟩) (Nat.lt_succ_self g) _⟩
/-- What is taken lies in a slice of its own. -/
def Lies (w : World) (v : Value) (l : List Prt) : Prop := ∃ b c, v = .slice (some ⟨b, 0, none⟩) l.length c ∧ ∀ i q, l[i]? = some q → w.cell? ⟨b, i * 3, none⟩ = some (.bool q.truth) ∧ w.cell? ⟨b, i * 3 + 1, none⟩ = some (.bool q.lit) ∧ w.cell? ⟨b, i * 3 + 2, none⟩ = some (.string q.text)
def Has (st : List Prt) (k : Nat) (t : Bool) : Prop := ∃ st0 l, st = st0 ++ l ∧ l.length = k ∧ ∀ q ∈ l, q.truth = t
def TakesPost (w : World) (g : Nat) (st : List Prt) (k : Nat) (t : Bool) (e : Ending) (w' : World) : Prop :=
  But (Ge g) w w' ∧
    ((e = .returned (.tuple #[.slice none 0 0, .bool false]) ∧ (∃ v, Wk w' g v st) ∧ ¬ Has st k t) ∨
      ∃ st0 l v v', st = st0 ++ l ∧ l.length = k ∧ (∀ q ∈ l, q.truth = t) ∧ e = .returned (.tuple #[v, .bool true]) ∧ Lies w' v l ∧ Wk w' g v' st0)
set_option maxHeartbeats 8000000 in
theorem takes0 (g : Nat) (st : List Prt) (v : Value) (b k : Nat) (t : Bool) (w : World) (h : Wk w g v st) (hst : st.length ≤ 1024) (hk : 1 ≤ k) (hk2 : k ≤ 2) (hb : g < b) (hb2 : b < w.heap.size)
    (hc : ∀ i, i < k → w.cell? ⟨b, i, none⟩ = some (.bool t)) :
    Calls Try.prog 65 #[.pointer (some ⟨g, 0, none⟩), .slice (some ⟨b, 0, none⟩) k k] w (TakesPost w g st k t) := by
  have hg0 := h.cell
  by_cases h1 : st.length < k
  · have hN : ¬ Has st k t := by
      rintro ⟨st0, l, e1, e2, _⟩
      rw [e1, List.length_append] at h1
      omega
    obtain ⟨A, c, rfl⟩ := h.2.slice
    have d1 : decide ((st.length : Int) - (k : Int) < 0) = true := by simp; omega
    have p1 : (st.length : Int) - (k : Int) < 0 := by omega
    have HN := Lib.hid hN
    clear hN hc
    go_enter Try.func65, Try.ntmps65
    go_wp2_with fail
    go_ret2
    exact ⟨But.refl _ _, .inl ⟨rfl, ⟨_, h⟩, HN.out⟩⟩
  · obtain ⟨gs, c, rfl, hgs, hgsl, hcap, hmx⟩ := h.2.lit (by omega)
    obtain ⟨m, hm⟩ : ∃ m, st.length = m + k := ⟨st.length - k, by omega⟩
    obtain ⟨st0, l, e1, e2, e3⟩ : ∃ st0 l : List Prt, st = st0 ++ l ∧ st0.length = m ∧ l.length = k := ⟨st.take m, st.drop m, (List.take_append_drop m st).symm, by simp; omega, by simp; omega⟩
    have hO := h.2
    rw [e1] at hO
    have hsrc := hO.part
    have hown0 := hO.shrink
    rw [e2] at hsrc hown0
    have hgl := h.lt
    rw [hm] at hg0 hst
    have HS := Lib.hid hsrc
    have HO := Lib.hid hown0
    have E1 := Lib.hid e1
    have E2 := Lib.hid e2
    have E3 := Lib.hid e3
    have HW := Lib.hid h
    have HC := Lib.hid hc
    have HM := Lib.hid hm
    have hmc : m + k ≤ c := by omega
    have hne : ¬ c = m := by omega
    have d0 : decide ((m : Int) < 0) = false := by simp
    have d1 : ¬ (m : Int) < 0 := by omega
    clear hsrc hown0 hO e1 e2 e3 h hc hm hcap h1
    go_enter Try.func65, Try.ntmps65
    go_wp2_with (at_builtin; refine prE.append rfl _ _ rfl rfl w.heap.size _ [] rfl (El.Own.fresh w _ (Nat.le_refl _)) ⟨gs, m * 3, none⟩ k (c - m) l E3.out (by simp; omega) rfl (fun j u hj => ((But.refl No w).alloc _).cell_some (HS.out j u hj) (fun c => c)) (by show (([] : List Prt).length + k) * (24 + 1) ≤ _; simp; omega) (by simp) ?_; intro g2 c2 w1 hown hgrow)
    have hb1 : But No w w1 := El.Own.grown ((But.refl No w).alloc _) (El.Own.fresh (E := prE) w _ (Nat.le_refl _)) hgrow (Nat.le_refl _)
    have hown1 : prE.Own w1 w.heap.size (.slice (some ⟨g2, 0, none⟩) k c2) l := by simpa using hown
    have hcells : ∀ i q, l[i]? = some q → w1.cell? ⟨g2, i * 3, none⟩ = some (.bool q.truth) ∧ w1.cell? ⟨g2, i * 3 + 1, none⟩ = some (.bool q.lit) ∧ w1.cell? ⟨g2, i * 3 + 2, none⟩ = some (.string q.text) :=
      fun i q hq => ⟨hown1.cell i q hq 0 _ rfl, hown1.cell i q hq 1 _ rfl, hown1.cell i q hq 2 _ rfl⟩
    have hg2 := hown1.block
    have HCL := Lib.hid hcells
    have HW1 := Lib.hid (HW.out.new hb1)
    have HO1 := Lib.hid (HO.out.new hb1)
    have HB1 := Lib.hid hb1
    have hgc := HW1.out.cell
    rw [HM.out] at hgc
    have hgf := HW1.out.free 0
    have hgl1 := HW1.out.lt
    have hg2l := hg2.1
    have hg2s := hg2.2.1
    clear hgrow hown hown1 hcells hb1 hg2
    go_loopg [30] k (fun gk v30 wr => ∃ i : Nat, gk = k - i ∧ i ≤ k ∧ v30 = .int .i64 (i : Int) ∧ w1 = wr ∧ ∀ j q, j < i → l[j]? = some q → q.truth = t)
    case atStart => exact ⟨0, rfl, Nat.zero_le _, rfl, rfl, fun j q hj => absurd hj (Nat.not_lt_zero j)⟩
    case round =>
      obtain ⟨i, hgk, hi, rfl, rfl, hall⟩ := hrel
      have HGK := Lib.hid hgk
      have HA := Lib.hid hall
      clear hgk hall
      by_cases hlt : i < k
      · have hil : i < l.length := by rw [E3.out]; exact hlt
        have hc1 := (HCL.out i l[i] (List.getElem?_eq_getElem hil)).1
        have hc2 := HB1.out.cell_some (HC.out i hlt) (fun c => c)
        obtain ⟨x, hx⟩ : ∃ x, l[i].truth = x := ⟨_, rfl⟩
        rw [hx] at hc1
        by_cases hxt : x = t
        · subst hxt
          have e1 : (x != x) = false := by simp
          have HN : Hid (∀ j q, j < i + 1 → l[j]? = some q → q.truth = x) := Lib.hid (by
            intro j q hj hq
            by_cases hji : j < i
            · exact HA.out j q hji hq
            · obtain rfl : j = i := by omega
              rw [List.getElem?_eq_getElem hil] at hq
              injection hq with hq
              rw [← hq]
              exact hx)
          clear hx
          go_wp2_with fail
          go_roundg (k - (i + 1))
          case measure => rw [HGK.out]; omega
          case rel => exact ⟨i + 1, rfl, by omega, by go_num, rfl, HN.out⟩
        · have e1 : (x != t) = true := by simp [hxt]
          have e2 : (x == t) = false := by simp [hxt]
          have HN : Hid (¬ Has st k t) := Lib.hid (by
            rintro ⟨st1, l1, q1, q2, q3⟩
            have h4 : st0.length = st1.length := by
              have := congrArg List.length (E1.out.symm.trans q1)
              rw [List.length_append, List.length_append, q2, E3.out] at this
              omega
            have h5 := (List.append_inj (E1.out.symm.trans q1) h4).2
            have h6 : l[i] ∈ l1 := by rw [← h5]; exact List.getElem_mem hil
            exact hxt (hx.symm.trans (q3 _ h6)))
          clear hx hxt
          go_wp2_with fail
          go_ret2
          exact ⟨HB1.out.mono (fun _ _ c => c.elim), .inl ⟨rfl, ⟨_, HW1.out⟩, HN.out⟩⟩
      · obtain rfl : i = k := by omega
        have HL : Hid (∀ q ∈ l, q.truth = t) := Lib.hid (by
          intro q hq
          obtain ⟨j, hj, e⟩ := List.getElem_of_mem hq
          exact HA.out j q (by rw [← E3.out]; exact hj) (by rw [List.getElem?_eq_getElem hj, e]))
        have hmc2 : m ≤ c := by omega
        go_wp2_with fail
        go_ret2
        refine ⟨(HB1.out.mono (fun _ _ c => c.elim)).setCell (.inl (Nat.le_refl g)) _, .inr ⟨st0, l, _, _, E1.out, E3.out, HL.out, rfl, ⟨g2, c2, by rw [E3.out]; rfl, ?_⟩, HW1.out.put HO1.out⟩⟩
        have hsb : ∀ o, (w1.setCell ⟨g, 0, none⟩ (.slice (some ⟨gs, 0, none⟩) m c)).cell? ⟨g2, o, none⟩ = w1.cell? ⟨g2, o, none⟩ := fun o => ((But.refl (One g) w1).set1 0 _).cell (p := ⟨g2, o, none⟩) hg2s (show ¬ g2 = g by omega)
        intro j q hq
        have := HCL.out j q hq
        exact ⟨(hsb _).trans this.1, (hsb _).trans this.2.1, (hsb _).trans this.2.2⟩
end Go.Proofs.Ytinhlaiogkmkfaa.G
