/- rule's run: its stack, push and pop. -/
import Derived.Test.YtinhlaiogkmkfaaQVc
import Derived.BigRegion
namespace Go.Proofs.Ytinhlaiogkmkfaa.G
open Go.RowKit
attribute [local simp, local go_sem] alloc_drewN setCell_drewN
set_option linter.unusedVariables false
set_option linter.unusedSimpArgs false
set_option maxRecDepth 100000
/-- A text or a truth. -/
structure Vl where
  text : ByteArray
  ok : Bool
def vlE : El Try.prog 93 85 Vl where
  enc q := [.string q.text, .bool q.ok]
  sz := 2
  wd := 24
  zero := .agg #[.string ByteArray.empty, .bool false]
  hpos := by decide
  henc _ := rfl
  hone q u hu := by
    simp only [List.mem_cons, List.not_mem_nil, or_false] at hu
    rcases hu with rfl | rfl <;> rfl
  hi := by kernel_rfl
  hzs := rfl
  hu := Try.underlying85
/-- The run at block g: its variables, and its stack in the slice v, behind block B. -/
def Rn (w : World) (g B : Nat) (vv v : Value) (st : List Vl) : Prop := w.heap[g]? = some (.cells #[vv, v] 87 (0, 0)) ∧ vlE.Own w B v st ∧ g < B ∧ B ≤ w.heap.size
def Fr (g B : Nat) : Nat → Prop := fun k => k = g ∨ B ≤ k
section
variable {w w' W w1 : World} {g B : Nat} {vv v v' : Value} {st st' : List Vl}
theorem Rn.lt (h : Rn w g B vv v st) : g < w.heap.size := lt_of_block h.1
theorem Rn.cell0 (h : Rn w g B vv v st) : w.cell? ⟨g, 0, none⟩ = some vv := by
  rw [cell_of_row w g 0 _ _ _ h.1]
  rfl
theorem Rn.cell (h : Rn w g B vv v st) : w.cell? ⟨g, 1, none⟩ = some v := by
  rw [cell_of_row w g 1 _ _ _ h.1]
  rfl
theorem Rn.free (h : Rn w g B vv v st) (i : Nat) : w.frozen? ⟨g, i, none⟩ = false := blkfree h.1 i
theorem Rn.new (h : Rn w g B vv v st) (hb : But No w w') : Rn w' g B vv v st := ⟨(hb.block g h.lt (fun c => c)).trans h.1, h.2.1.new hb, h.2.2.1, Nat.le_trans h.2.2.2 hb.size⟩
theorem Rn.grow (h : Rn W g B vv v st) (hg : W.grownBy w1 v.ownBlock) : w1.heap[g]? = some (.cells #[vv, v] 87 (0, 0)) ∧ But (Fr g B) W w1 ∧ g < B ∧ B ≤ w1.heap.size := by
  refine ⟨(hg.block g h.lt ?_).trans h.1, (But.refl (Fr g B) W).grown hg (fun k hk => .inl (.inr (h.2.1.lt k hk).1)), h.2.2.1, Nat.le_trans h.2.2.2 hg.size⟩
  intro e
  have := (h.2.1.lt g e.symm).1
  have := h.2.2.1
  omega
theorem Rn.put2 (h : w1.heap[g]? = some (.cells #[vv, v] 87 (0, 0))) (ho : vlE.Own w1 B v' st') (hB : g < B) (hs : B ≤ w1.heap.size) : Rn (w1.setCell ⟨g, 1, none⟩ v') g B vv v' st' :=
  ⟨by rw [blkset h 1 v']; rfl, ho.set (p := ⟨g, 1, none⟩) hB _, hB, by simpa using hs⟩
end
def RnPost (w : World) (S : Nat → Prop) (g B : Nat) (vv : Value) (st : List Vl) (r : Value) (e : Ending) (w' : World) : Prop := e = .returned r ∧ But S w w' ∧ ∃ v, Rn w' g B vv v st
set_option maxHeartbeats 4000000 in
theorem push0 (g B : Nat) (vv v : Value) (st : List Vl) (tx : ByteArray) (ok : Bool) (w : World) (h : Rn w g B vv v st) (hst : st.length ≤ 100000) :
    Calls Try.prog 98 #[.pointer (some ⟨g, 0, none⟩), .agg #[.string tx, .bool ok]] w (RnPost w (Fr g B) g B vv (st ++ [⟨tx, ok⟩]) (.tuple #[])) := by
  have HW := Lib.hid h
  have hg0 := h.cell
  have hgf := h.free 1
  have hgl := h.lt
  have hne : ¬ w.heap.size = g := by omega
  clear h
  go_enter Try.func98, Try.ntmps98
  go_wp2_with fail
  go_region_law ((refine vlE.step1 rfl _ _ rfl rfl B v st rfl (HW.out.2.1.new ((((But.refl No w).alloc _).drew).alloc _)) (w.heap.size + 1) ⟨tx, ok⟩ #[.string tx, .bool ok] rfl rfl (heap_alloc2_new w _ _) (by show (st.length + 1) * (24 + 1) ≤ _; omega) (by have := HW.out.2.2.2; simp; omega) ?_; intro g2 c2 w1 hown hgrow; (have hq := (HW.out.new ((((But.refl No w).alloc _).drew).alloc _)).grow hgrow); (have hq1 : w1.cell? ⟨g, 1, none⟩ = some v := cell_of_row w1 g 1 _ _ _ hq.1); (have hq2 := blkfree hq.1 1); (have HQ := Lib.hid hq); (have HP := Lib.hid (Rn.put2 hq.1 hown hq.2.2.1 hq.2.2.2)); clear hq hgrow hown))
  all_goals
    go_wp2_with fail
    go_end0
    exact ⟨rfl, (((((But.refl _ w).alloc _).drew).alloc _).trans HQ.out.2.1).setCell (p := ⟨g, 1, none⟩) (.inl (.inl rfl)) _, _, HP.out⟩
set_option maxHeartbeats 4000000 in
theorem pop0 (g B : Nat) (vv v : Value) (s : List Vl) (q : Vl) (w : World) (h : Rn w g B vv v (s ++ [q])) (hst : s.length ≤ 100000) :
    Calls Try.prog 54 #[.pointer (some ⟨g, 0, none⟩)] w (RnPost w (One g) g B vv s (.agg #[.string q.text, .bool q.ok])) := by
  obtain ⟨gs, c, rfl, hgs, hgsl, hcap, hmx⟩ := h.2.1.lit (by simp)
  have HW := Lib.hid h
  have hg0 := h.cell
  have hgf := h.free 1
  have hgl := h.lt
  have k1 := h.2.1.cell s.length q (by simp) 0 _ rfl
  have k2 := h.2.1.cell s.length q (by simp) 1 _ rfl
  have hsh := h.2.1.shrink
  have HSH := Lib.hid hsh
  rw [List.length_append, List.length_singleton] at hg0 hcap
  obtain ⟨n, hn⟩ : ∃ n, s.length = n := ⟨_, rfl⟩
  rw [hn] at hg0 hcap hst k1 k2
  have HN := Lib.hid hn
  have hE : vlE.sz = 2 := rfl
  rw [hE] at k1 k2
  rw [Nat.add_zero] at k1
  clear hE h hsh hn
  have hne : ¬ w.heap.size = g := by omega
  have hne2 : ¬ w.heap.size + 1 = g := by omega
  have hc1 : n ≤ c := by omega
  go_enter Try.func54, Try.ntmps54
  go_wp2_with fail
  go_region
  all_goals
    go_wp2_with fail
    go_region
  all_goals
    go_wp2_with fail
    refine bodyPost_ret (v := .agg #[.string q.text, .bool q.ok]) (by simp [results, Try.results54, go_sem]) rfl ⟨rfl, ?_, .slice (some ⟨gs, 0, none⟩) n c, ?_⟩
    · exact ((((((But.refl (One g) w).set1 1 _).alloc _).alloc _).drew).drew)
    · have h1 : Rn (w.setCell ⟨g, 1, none⟩ (.slice (some ⟨gs, 0, none⟩) n c)) g B vv (.slice (some ⟨gs, 0, none⟩) n c) s := Rn.put2 HW.out.1 (by rw [← HN.out]; exact HSH.out) HW.out.2.2.1 HW.out.2.2.2
      exact h1.new (((((But.refl No _).alloc _).alloc _).drew).drew)
end Go.Proofs.Ytinhlaiogkmkfaa.G
