/- The pattern reader's small methods: end, wrong, byte; the functions of one byte. -/
import Derived.Test.YtinhlaiogkmkfaaProg
import Derived.Test.YtinhlaiogkmkfaaQGk
import Derived.Deep.QuietTactic
import Derived.BigQuiet
import Derived.Deep.LoopGhost
import Derived.Laws.EntriesVeiled
namespace Go.Proofs.Ytinhlaiogkmkfaa.G
open Go.RowKit
attribute [local simp, local go_sem] alloc_drewN setCell_drewN
set_option linter.unusedVariables false
def bt (s : ByteArray) (i : Nat) : Int := if h : i < s.size then ((s[i]'h).toNat : Int) else 0
theorem bt_at (s : ByteArray) (i : Nat) : ∀ h : i < s.size, ((s[i]'h).toNat : Int) = bt s i := fun h => by simp [bt, h]
theorem bt_range (s : ByteArray) (i : Nat) : 0 ≤ bt s i ∧ bt s i ≤ 255 := by
  unfold bt
  split
  · rename_i h
    have := (s[i]'h).toNat_lt
    omega
  · omega
/-- The reader at block g: its pattern, its place, its first wrong place. -/
def Rd (w : World) (g : Nat) (p : ByteArray) (a b : Int) : Prop := w.heap[g]? = some (.cells #[.string p, .int .i64 a, .int .i64 b] 138 (0, 0))
namespace Rd
variable {w w' : World} {g : Nat} {p : ByteArray} {a b : Int}
theorem c0 (h : Rd w g p a b) : w.cell? ⟨g, 0, none⟩ = some (.string p) := blkcell h 0 (by simp)
theorem c1 (h : Rd w g p a b) : w.cell? ⟨g, 1, none⟩ = some (.int .i64 a) := blkcell h 1 (by simp)
theorem c2 (h : Rd w g p a b) : w.cell? ⟨g, 2, none⟩ = some (.int .i64 b) := blkcell h 2 (by simp)
theorem fr (h : Rd w g p a b) (i : Nat) : w.frozen? ⟨g, i, none⟩ = false := blkfree h i
theorem lt (h : Rd w g p a b) : g < w.heap.size := lt_of_block h
theorem set1 (h : Rd w g p a b) (x : Int) : Rd (w.setCell ⟨g, 1, none⟩ (.int .i64 x)) g p x b := by
  have := blkset h 1 (.int .i64 x); simpa [Rd] using this
theorem set2 (h : Rd w g p a b) (x : Int) : Rd (w.setCell ⟨g, 2, none⟩ (.int .i64 x)) g p a x := by
  have := blkset h 2 (.int .i64 x); simpa [Rd] using this
theorem far (h : Rd w g p a b) {q : Addr} (hne : g ≠ q.block) (u : Value) : Rd (w.setCell q u) g p a b := blkfar h hne u
theorem alloc (h : Rd w g p a b) (o : Obj) : Rd (w.alloc o) g p a b := blkold h o
theorem drew (h : Rd w g p a b) : Rd w.drew g p a b := h
theorem drewN (h : Rd w g p a b) (n : Nat) : Rd (w.drewN n) g p a b := h
theorem but (h : Rd w g p a b) {S : Nat → Prop} (hb : But S w w') (hn : ¬ S g) : Rd w' g p a b := (hb.block g h.lt hn).trans h
end Rd
set_option maxHeartbeats 400000 in
theorem end_ (g : Nat) (p : ByteArray) (a b : Int) (w : World) (h : Rd w g p a b) (hp : p.size ≤ 1000) :
    Calls Try.prog 113 #[.pointer (some ⟨g, 0, none⟩)] w fun e w' => e = .returned (.bool (decide ((p.size : Int) ≤ a))) ∧ ∃ n, w' = w.drewN n := by
  have h0 := h.c0
  have h1 := h.c1
  go_enter Try.func113, Try.ntmps113
  go_wp2
  repeat (go_quiet (fail); try go_wp2)
  go_ret
  exact ⟨rfl, _, rfl⟩
theorem end_no (g : Nat) (p : ByteArray) (a b : Int) (w : World) (h : Rd w g p a b) (hp : p.size ≤ 1000) (ha : a < p.size) :
    Calls Try.prog 113 #[.pointer (some ⟨g, 0, none⟩)] w fun e w' => e = .returned (.bool false) ∧ ∃ n, w' = w.drewN n :=
  (end_ g p a b w h hp).mono fun e w' ⟨he, hw⟩ => ⟨by rw [he, decide_eq_false (by omega)], hw⟩
theorem end_yes (g : Nat) (p : ByteArray) (a b : Int) (w : World) (h : Rd w g p a b) (hp : p.size ≤ 1000) (ha : (p.size : Int) ≤ a) :
    Calls Try.prog 113 #[.pointer (some ⟨g, 0, none⟩)] w fun e w' => e = .returned (.bool true) ∧ ∃ n, w' = w.drewN n :=
  (end_ g p a b w h hp).mono fun e w' ⟨he, hw⟩ => ⟨by rw [he, decide_eq_true (by omega)], hw⟩
def wrongAt (bad at_ : Int) : Int := if bad < 0 then at_ else if at_ < bad then at_ else bad
set_option maxHeartbeats 400000 in
theorem wrong (g : Nat) (p : ByteArray) (a b at_ : Int) (w : World) (h : Rd w g p a b) :
    Calls Try.prog 121 #[.pointer (some ⟨g, 0, none⟩), .int .i64 at_] w fun e w' => e = .returned (.tuple #[]) ∧ But (One g) w w' ∧ Rd w' g p a (wrongAt b at_) := by
  have h2 := h.c2
  have f2 := h.fr 2
  by_cases e1 : b < 0
  · have hs := h.set2 at_
    have E := Lib.hid (show wrongAt b at_ = at_ from if_pos e1)
    go_enter Try.func121, Try.ntmps121
    go_wp2
    go_end0
    exact ⟨rfl, (But.refl _ _).set1 _ _, by rw [E.out]; exact hs⟩
  · by_cases e2 : at_ < b
    · have hs := h.set2 at_
      have E := Lib.hid (show wrongAt b at_ = at_ from (if_neg e1).trans (if_pos e2))
      go_enter Try.func121, Try.ntmps121
      go_wp2
      go_end0
      exact ⟨rfl, (But.refl _ _).set1 _ _, by rw [E.out]; exact hs⟩
    · have E := Lib.hid (show wrongAt b at_ = b from (if_neg e1).trans (if_neg e2))
      go_enter Try.func121, Try.ntmps121
      go_wp2
      go_end0
      exact ⟨rfl, But.refl _ _, by rw [E.out]; exact h⟩
def byteV (p : ByteArray) (a : Nat) : Int := if bt p a = 92 then (if p.size ≤ a + 1 then 0 else bt p (a + 1)) else bt p a
def byteA (p : ByteArray) (a : Nat) : Nat := if bt p a = 92 then (if p.size ≤ a + 1 then a + 1 else a + 2) else a + 1
def byteB (p : ByteArray) (a : Nat) (b : Int) : Int := if bt p a = 92 then (if p.size ≤ a + 1 then wrongAt b a else b) else b
set_option maxHeartbeats 1000000 in
theorem byte_ (g : Nat) (p : ByteArray) (a : Nat) (b : Int) (w : World) (h : Rd w g p a b) (hp : p.size ≤ 1000) (ha : a < p.size) :
    Calls Try.prog 118 #[.pointer (some ⟨g, 0, none⟩)] w fun e w' => e = .returned (.int .u8 (byteV p a)) ∧ But (One g) w w' ∧ Rd w' g p (byteA p a : Nat) (byteB p a b) := by
  have h0 := h.c0
  have h1 := h.c1
  have f1 := h.fr 1
  have hb := bt_at p a ha
  have hs := h.set1 ((a : Int) + 1)
  by_cases e1 : bt p a = 92
  · have e1' : (bt p a == 92) = true := by simp [e1]
    have e1n : (bt p a != 92) = false := by simp [e1]
    by_cases e2 : p.size ≤ a + 1
    · have E := Lib.hid (show byteV p a = 0 ∧ byteA p a = a + 1 ∧ byteB p a b = wrongAt b a from by unfold byteV byteA byteB; simp [e1, e2])
      clear e1
      go_enter Try.func118, Try.ntmps118
      go_wp2_with fail
      go_quiet (fail)
      go_wp2_with fail
      refine (end_ g p ((a : Int) + 1) b _ (hs.drewN _) hp).mono ?_
      rintro e w1 ⟨rfl, n, rfl⟩
      go_wp2_with fail
      refine (wrong g p ((a : Int) + 1) b a _ (hs.drewN _)).mono ?_
      rintro e w2 ⟨rfl, hb2, hr2⟩
      go_wp2_with fail
      go_ret
      exact ⟨by rw [E.out.1]; rfl, (((But.refl _ _).set1 _ _).drewN _).trans hb2, by rw [E.out.2.1, E.out.2.2]; exact hr2⟩
    · have E := Lib.hid (show byteV p a = bt p (a + 1) ∧ byteA p a = a + 2 ∧ byteB p a b = b from by unfold byteV byteA byteB; simp [e1, e2])
      have hb2 := bt_at p (a + 1) (by omega)
      have hs2 := hs.set1 ((a : Int) + 2)
      have f1' := hs.fr 1
      clear e1
      go_enter Try.func118, Try.ntmps118
      go_wp2_with fail
      go_quiet (fail)
      go_wp2_with fail
      refine (end_ g p ((a : Int) + 1) b _ (hs.drewN _) hp).mono ?_
      rintro e w1 ⟨rfl, n, rfl⟩
      go_wp2_with fail
      repeat (go_quiet (fail); try go_wp2)
      go_ret
      exact ⟨by rw [E.out.1]; rfl, by repeat (first | exact But.refl _ _ | apply But.drewN | apply But.set1), by rw [E.out.2.1, E.out.2.2]; repeat (first | exact hs2 | apply Rd.drewN | exact Rd.set1 hs _ | exact Rd.set1 h _)⟩
  · have e1' : (bt p a == 92) = false := by simp [e1]
    have e1n : (bt p a != 92) = true := by simp [e1]
    have E := Lib.hid (show byteV p a = bt p a ∧ byteA p a = a + 1 ∧ byteB p a b = b from by unfold byteV byteA byteB; simp [e1])
    clear e1
    go_enter Try.func118, Try.ntmps118
    go_wp2_with fail
    go_quiet (fail)
    go_wp2_with fail
    go_ret
    exact ⟨by rw [E.out.1]; rfl, (((But.refl _ _).set1 _ _).drewN _), by rw [E.out.2.1, E.out.2.2]; exact hs⟩
end Go.Proofs.Ytinhlaiogkmkfaa.G
