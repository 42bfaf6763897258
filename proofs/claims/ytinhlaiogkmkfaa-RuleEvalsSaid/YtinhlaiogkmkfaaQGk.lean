/- Texts of this claim, joined: words and laws that the others use. -/
import Derived.WalkKit
import Derived.Deep.Draws
import Derived.Lib.Hide
import Derived.Test.YtinhlaiogkmkfaaProg
import Derived.Deep.QuietTactic
import Derived.BigQuiet
import Derived.Deep.LoopGhost
import Derived.Laws.EntriesVeiled
import Derived.Deep.RegionHeld3
import Derived.Deep.DeepCutAuto
import Derived.Deep.CutBlock
section
/- Plain words on worlds that the walks of this seat use: what is kept but for some blocks. -/
namespace Go.Proofs.Ytinhlaiogkmkfaa.G
open Go.RowKit
/-- w' is w but for new blocks and for what the blocks of S hold. -/
structure But (S : Nat → Prop) (w w' : World) : Prop where
  os : w'.os = w.os
  tape : w'.tape = w.tape
  output : w'.output = w.output
  size : w.heap.size ≤ w'.heap.size
  block : ∀ k, k < w.heap.size → ¬ S k → w'.heap[k]? = w.heap[k]?
def No : Nat → Prop := fun _ => False
def One (g : Nat) : Nat → Prop := fun k => k = g
theorem one_self (g : Nat) : One g g := rfl
namespace But
variable {S S' : Nat → Prop} {w w' w'' : World}
theorem refl (S : Nat → Prop) (w : World) : But S w w := ⟨rfl, rfl, rfl, Nat.le_refl _, fun _ _ _ => rfl⟩
theorem trans_ (h : But S w w') (k : But S' w' w'') (hs : ∀ b, b < w.heap.size → S' b → S b) : But S w w'' :=
  ⟨k.os.trans h.os, k.tape.trans h.tape, k.output.trans h.output, Nat.le_trans h.size k.size,
    fun i hi hn => (k.block i (Nat.lt_of_lt_of_le hi h.size) (fun c => hn (hs i hi c))).trans (h.block i hi hn)⟩
theorem trans (h : But S w w') (k : But S w' w'') : But S w w'' := h.trans_ k (fun _ _ c => c)
theorem mono (h : But S w w') (hs : ∀ b, b < w.heap.size → S b → S' b) : But S' w w' :=
  ⟨h.os, h.tape, h.output, h.size, fun i hi hn => h.block i hi (fun c => hn (hs i hi c))⟩
theorem drew (h : But S w w') : But S w w'.drew := ⟨h.os, h.tape, h.output, h.size, h.block⟩
theorem drewN (h : But S w w') (n : Nat) : But S w (w'.drewN n) := ⟨h.os, h.tape, h.output, h.size, h.block⟩
theorem alloc (h : But S w w') (o : Obj) : But S w (w'.alloc o) :=
  h.trans ⟨rfl, rfl, rfl, by simp, fun k hk _ => Below.heap_alloc _ _ _ hk⟩
theorem setCell (h : But S w w') {p : Addr} (hp : S p.block ∨ w.heap.size ≤ p.block) (u : Value) : But S w (w'.setCell p u) :=
  h.trans_ (S' := One p.block) ⟨rfl, rfl, rfl, by simp [World.setCell], fun k _ hn => Below.heap_setCell _ _ _ _ hn⟩
    (fun b hb e => by cases hp with
      | inl hp => exact e ▸ hp
      | inr hp => exact absurd hb (by unfold One at e; omega))
theorem set1 {g : Nat} (h : But (One g) w w') (i : Nat) (u : Value) : But (One g) w (w'.setCell ⟨g, i, none⟩ u) := h.setCell (p := ⟨g, i, none⟩) (.inl (one_self g)) u
theorem of_below (h : Below w.heap.size w w') : But S w w' := ⟨h.os, h.tape, h.output, h.size, fun k hk _ => h.block k hk⟩
theorem below (h : But S w w') (hs : ∀ b, b < w.heap.size → ¬ S b) : Below w.heap.size w w' := ⟨h.os, h.tape, h.output, h.size, fun k hk => h.block k hk (hs k hk)⟩
theorem belowNo (h : But No w w') : Below w.heap.size w w' := h.below (fun _ _ c => c)
theorem cell (h : But S w w') {p : Addr} (hp : p.block < w.heap.size) (hn : ¬ S p.block) : w'.cell? p = w.cell? p := World.cell?_of_block (w := w) (h.block p.block hp hn)
theorem frozen (h : But S w w') {p : Addr} (hp : p.block < w.heap.size) (hn : ¬ S p.block) : w'.frozen? p = w.frozen? p := World.frozen?_of_block (w := w) (h.block p.block hp hn)
theorem cell_some (h : But S w w') {p : Addr} {v : Value} (hc : w.cell? p = some v) (hn : ¬ S p.block) : w'.cell? p = some v := (h.cell (block_lt_of_cell hc) hn).trans hc
theorem grown {row : Option Nat} (h : But S w w') (hg : w'.grownBy w'' row) (hr : ∀ k, row = some k → S k ∨ w.heap.size ≤ k) : But S w w'' :=
  h.trans_ (S' := fun k => some k = row) ⟨hg.os, hg.tape, hg.output, hg.size, fun k hk hn => hg.block k hk hn⟩
    (fun b hb e => (hr b e.symm).resolve_right (by omega))
end But
theorem alloc_drewN (w : World) (n : Nat) (o : Obj) : (w.drewN n).alloc o = (w.alloc o).drewN n := rfl
theorem setCell_drewN (w : World) (n : Nat) (a : Addr) (v : Value) : (w.drewN n).setCell a v = (w.setCell a v).drewN n := rfl
theorem blkset {w : World} {g : Nat} {cs : Array Value} {t : TypeId} (hb : w.heap[g]? = some (.cells cs t (0, 0))) (i : Nat) (u : Value) :
    (w.setCell ⟨g, i, none⟩ u).heap[g]? = some (.cells (cs.setIfInBounds i u) t (0, 0)) := heap_setCell_same w g i cs t u hb
theorem blkfar {w : World} {g : Nat} {o : Obj} (hb : w.heap[g]? = some o) {p : Addr} (hne : g ≠ p.block) (u : Value) : (w.setCell p u).heap[g]? = some o := (Below.heap_setCell _ _ _ _ hne).trans hb
theorem blkold {w : World} {g : Nat} {o : Obj} (hb : w.heap[g]? = some o) (x : Obj) : (w.alloc x).heap[g]? = some o := (Below.heap_alloc _ _ _ (lt_of_block hb)).trans hb
theorem blkcell {w : World} {g : Nat} {cs : Array Value} {t : TypeId} (hb : w.heap[g]? = some (.cells cs t (0, 0))) (i : Nat) (h : i < cs.size) : w.cell? ⟨g, i, none⟩ = some cs[i] := by
  rw [cell_of_row w g i cs t (0, 0) hb, Array.getElem?_eq_getElem h]
theorem blkfree {w : World} {g : Nat} {cs : Array Value} {t : TypeId} (hb : w.heap[g]? = some (.cells cs t (0, 0))) (i : Nat) : w.frozen? ⟨g, i, none⟩ = false := frozen_of_row w g i cs t hb
theorem enters {P : Program} {F : FuncId} {fn : Func} (hf : P.funcs[F]? = some fn) (h1 : (fn.name == "runtime.NumGoroutine") = false) (h2 : fn.body.isSome = true) : ∀ (args : Array Value) (w : World), (callFunc F args).run P w = .ok (.enter F args) w := by
  intro args w
  obtain ⟨c, hc⟩ := Option.isSome_iff_exists.1 h2
  simp only [beq_eq_false_iff_ne] at h1
  simp [callFunc, go_sem, hf, h1, hc]
theorem own_slice {w : World} {base : Nat} {e : TypeId} {size n : Nat} {v : Value} {xs : List Value} (h : w.ownsRow base e size v n xs) : ∃ A c, v = .slice A n c := by
  rcases h.2 with ⟨rfl, rfl⟩ | ⟨g, cap, cur, rfl, _⟩
  · exact ⟨_, _, rfl⟩
  · exact ⟨_, _, rfl⟩
theorem own_at {w w' : World} {base : Nat} {e : TypeId} {size n : Nat} {v : Value} {xs : List Value} (h : w.ownsRow base e size v n xs) (hm : ∀ k, v.ownBlock = some k → w'.heap[k]? = w.heap[k]?) : w'.ownsRow base e size v n xs := by
  obtain ⟨h1, h2⟩ := h
  refine ⟨h1, ?_⟩
  rcases h2 with h2 | ⟨g, cap, cur, rfl, hg, hh, r⟩
  · exact .inl h2
  · exact .inr ⟨g, cap, cur, rfl, hg, (hm g (by simp [Value.ownBlock])).trans hh, r⟩
theorem own_but {w w' : World} {base : Nat} {e : TypeId} {size n : Nat} {v : Value} {xs : List Value} {S : Nat → Prop} (h : w.ownsRow base e size v n xs) (hb : But S w w') (hn : ∀ k, base ≤ k → k < w.heap.size → ¬ S k) : w'.ownsRow base e size v n xs :=
  own_at h fun k hk => hb.block k (h.lt k hk).2 (hn k (h.lt k hk).1 (h.lt k hk).2)
theorem own_mono {w : World} {base base' : Nat} {e : TypeId} {size n : Nat} {v : Value} {xs : List Value} (h : w.ownsRow base e size v n xs) (hb : base' ≤ base) : w.ownsRow base' e size v n xs := by
  obtain ⟨h1, h2⟩ := h
  refine ⟨h1, ?_⟩
  rcases h2 with h2 | ⟨g, cap, cur, rfl, hg, r⟩
  · exact .inl h2
  · exact .inr ⟨g, cap, cur, rfl, Nat.le_trans hb hg, r⟩
/-- A block below the row's base, behind an append to the row. -/
theorem blk_grown {w w' : World} {base : Nat} {e : TypeId} {size n g : Nat} {v : Value} {xs : List Value} {o : Obj} (hb : w.heap[g]? = some o) (hw : w.grownBy w' v.ownBlock) (h : w.ownsRow base e size v n xs) (hg : g < base) : w'.heap[g]? = some o :=
  (hw.block g (lt_of_block hb) (fun e => by have := (h.lt g e.symm).1; omega)).trans hb
theorem But.grow {w0 w w' : World} {S : Nat → Prop} {base : Nat} {e : TypeId} {size n : Nat} {v : Value} {xs : List Value} (hb : But S w0 w) (hw : w.grownBy w' v.ownBlock) (h : w.ownsRow base e size v n xs) (hg : w0.heap.size ≤ base) : But S w0 w' :=
  hb.grown hw (fun k hk => .inr (Nat.le_trans hg (h.lt k hk).1))
end Go.Proofs.Ytinhlaiogkmkfaa.G
end
section
/- The pattern reader's small methods: end, wrong, byte; the functions of one byte. -/
namespace Go.Proofs.Ytinhlaiogkmkfaa.G
open Go.RowKit
attribute [local simp, local go_sem] alloc_drewN setCell_drewN
set_option linter.unusedVariables false
def bt (s : ByteArray) (i : Nat) : Int := if h : i < s.size then ((s[i]'h).toNat : Int) else 0
theorem bt_at (s : ByteArray) (i : Nat) : ∀ h : i < s.size, ((s[i]'h).toNat : Int) = bt s i := fun h => by simp [bt, h]
theorem bt_range (s : ByteArray) (i : Nat) : 0 ≤ bt s i ∧ bt s i ≤ 255 := by
  unfold bt
  split
  · rename_i h
    have := (s[i]'h).toNat_lt
    omega
  · omega
/-- The reader at block g: its pattern, its place, its first wrong place. -/
def Rd (w : World) (g : Nat) (p : ByteArray) (a b : Int) : Prop := w.heap[g]? = some (.cells #[.string p, .int .i64 a, .int .i64 b] 138 (0, 0))
namespace Rd
variable {w w' : World} {g : Nat} {p : ByteArray} {a b : Int}
theorem c0 (h : Rd w g p a b) : w.cell? ⟨g, 0, none⟩ = some (.string p) := blkcell h 0 (by simp)
theorem c1 (h : Rd w g p a b) : w.cell? ⟨g, 1, none⟩ = some (.int .i64 a) := blkcell h 1 (by simp)
theorem c2 (h : Rd w g p a b) : w.cell? ⟨g, 2, none⟩ = some (.int .i64 b) := blkcell h 2 (by simp)
theorem fr (h : Rd w g p a b) (i : Nat) : w.frozen? ⟨g, i, none⟩ = false := blkfree h i
theorem lt (h : Rd w g p a b) : g < w.heap.size := lt_of_block h
theorem set1 (h : Rd w g p a b) (x : Int) : Rd (w.setCell ⟨g, 1, none⟩ (.int .i64 x)) g p x b := by
  have := blkset h 1 (.int .i64 x); simpa [Rd] using this
theorem set2 (h : Rd w g p a b) (x : Int) : Rd (w.setCell ⟨g, 2, none⟩ (.int .i64 x)) g p a x := by
  have := blkset h 2 (.int .i64 x); simpa [Rd] using this
theorem far (h : Rd w g p a b) {q : Addr} (hne : g ≠ q.block) (u : Value) : Rd (w.setCell q u) g p a b := blkfar h hne u
theorem alloc (h : Rd w g p a b) (o : Obj) : Rd (w.alloc o) g p a b := blkold h o
theorem drew (h : Rd w g p a b) : Rd w.drew g p a b := h
theorem drewN (h : Rd w g p a b) (n : Nat) : Rd (w.drewN n) g p a b := h
theorem but (h : Rd w g p a b) {S : Nat → Prop} (hb : But S w w') (hn : ¬ S g) : Rd w' g p a b := (hb.block g h.lt hn).trans h
end Rd
set_option maxHeartbeats 400000 in
theorem end_ (g : Nat) (p : ByteArray) (a b : Int) (w : World) (h : Rd w g p a b) (hp : p.size ≤ 1000) :
    Calls Try.prog 113 #[.pointer (some ⟨g, 0, none⟩)] w fun e w' => e = .returned (.bool (decide ((p.size : Int) ≤ a))) ∧ ∃ n, w' = w.drewN n := by
  have h0 := h.c0
  have h1 := h.c1
  go_enter Try.func113, Try.ntmps113
  go_wp2
  repeat (go_quiet (fail); try go_wp2)
  go_ret
  exact ⟨rfl, _, rfl⟩
theorem end_no (g : Nat) (p : ByteArray) (a b : Int) (w : World) (h : Rd w g p a b) (hp : p.size ≤ 1000) (ha : a < p.size) :
    Calls Try.prog 113 #[.pointer (some ⟨g, 0, none⟩)] w fun e w' => e = .returned (.bool false) ∧ ∃ n, w' = w.drewN n :=
  (end_ g p a b w h hp).mono fun e w' ⟨he, hw⟩ => ⟨by rw [he, decide_eq_false (by omega)], hw⟩
theorem end_yes (g : Nat) (p : ByteArray) (a b : Int) (w : World) (h : Rd w g p a b) (hp : p.size ≤ 1000) (ha : (p.size : Int) ≤ a) :
    Calls Try.prog 113 #[.pointer (some ⟨g, 0, none⟩)] w fun e w' => e = .returned (.bool true) ∧ ∃ n, w' = w.drewN n :=
  (end_ g p a b w h hp).mono fun e w' ⟨he, hw⟩ => ⟨by rw [he, decide_eq_true (by omega)], hw⟩
def wrongAt (bad at_ : Int) : Int := if bad < 0 then at_ else if at_ < bad then at_ else bad
set_option maxHeartbeats 400000 in
theorem wrong (g : Nat) (p : ByteArray) (a b at_ : Int) (w : World) (h : Rd w g p a b) :
    Calls Try.prog 121 #[.pointer (some ⟨g, 0, none⟩), .int .i64 at_] w fun e w' => e = .returned (.tuple #[]) ∧ But (One g) w w' ∧ Rd w' g p a (wrongAt b at_) := by
  have h2 := h.c2
  have f2 := h.fr 2
  by_cases e1 : b < 0
  · have hs := h.set2 at_
    have E := Lib.hid (show wrongAt b at_ = at_ from if_pos e1)
    go_enter Try.func121, Try.ntmps121
    go_wp2
    go_end0
    exact ⟨rfl, (But.refl _ _).set1 _ _, by rw [E.out]; exact hs⟩
  · by_cases e2 : at_ < b
    · have hs := h.set2 at_
      have E := Lib.hid (show wrongAt b at_ = at_ from (if_neg e1).trans (if_pos e2))
      go_enter Try.func121, Try.ntmps121
      go_wp2
      go_end0
      exact ⟨rfl, (But.refl _ _).set1 _ _, by rw [E.out]; exact hs⟩
    · have E := Lib.hid (show wrongAt b at_ = b from (if_neg e1).trans (if_neg e2))
      go_enter Try.func121, Try.ntmps121
      go_wp2
      go_end0
      exact ⟨rfl, But.refl _ _, by rw [E.out]; exact h⟩
def byteV (p : ByteArray) (a : Nat) : Int := if bt p a = 92 then (if p.size ≤ a + 1 then 0 else bt p (a + 1)) else bt p a
def byteA (p : ByteArray) (a : Nat) : Nat := if bt p a = 92 then (if p.size ≤ a + 1 then a + 1 else a + 2) else a + 1
def byteB (p : ByteArray) (a : Nat) (b : Int) : Int := if bt p a = 92 then (if p.size ≤ a + 1 then wrongAt b a else b) else b
set_option maxHeartbeats 1000000 in
theorem byte_ (g : Nat) (p : ByteArray) (a : Nat) (b : Int) (w : World) (h : Rd w g p a b) (hp : p.size ≤ 1000) (ha : a < p.size) :
    Calls Try.prog 118 #[.pointer (some ⟨g, 0, none⟩)] w fun e w' => e = .returned (.int .u8 (byteV p a)) ∧ But (One g) w w' ∧ Rd w' g p (byteA p a : Nat) (byteB p a b) := by
  have h0 := h.c0
  have h1 := h.c1
  have f1 := h.fr 1
  have hb := bt_at p a ha
  have hs := h.set1 ((a : Int) + 1)
  by_cases e1 : bt p a = 92
  · have e1' : (bt p a == 92) = true := by simp [e1]
    have e1n : (bt p a != 92) = false := by simp [e1]
    by_cases e2 : p.size ≤ a + 1
    · have E := Lib.hid (show byteV p a = 0 ∧ byteA p a = a + 1 ∧ byteB p a b = wrongAt b a from by unfold byteV byteA byteB; simp [e1, e2])
      clear e1
      go_enter Try.func118, Try.ntmps118
      go_wp2_with fail
      go_quiet (fail)
      go_wp2_with fail
      refine (end_ g p ((a : Int) + 1) b _ (hs.drewN _) hp).mono ?_
      rintro e w1 ⟨rfl, n, rfl⟩
      go_wp2_with fail
      refine (wrong g p ((a : Int) + 1) b a _ (hs.drewN _)).mono ?_
      rintro e w2 ⟨rfl, hb2, hr2⟩
      go_wp2_with fail
      go_ret
      exact ⟨by rw [E.out.1]; rfl, (((But.refl _ _).set1 _ _).drewN _).trans hb2, by rw [E.out.2.1, E.out.2.2]; exact hr2⟩
    · have E := Lib.hid (show byteV p a = bt p (a + 1) ∧ byteA p a = a + 2 ∧ byteB p a b = b from by unfold byteV byteA byteB; simp [e1, e2])
      have hb2 := bt_at p (a + 1) (by omega)
      have hs2 := hs.set1 ((a : Int) + 2)
      have f1' := hs.fr 1
      clear e1
      go_enter Try.func118, Try.ntmps118
      go_wp2_with fail
      go_quiet (fail)
      go_wp2_with fail
      refine (end_ g p ((a : Int) + 1) b _ (hs.drewN _) hp).mono ?_
      rintro e w1 ⟨rfl, n, rfl⟩
      go_wp2_with fail
      repeat (go_quiet (fail); try go_wp2)
      go_ret
      exact ⟨by rw [E.out.1]; rfl, by repeat (first | exact But.refl _ _ | apply But.drewN | apply But.set1), by rw [E.out.2.1, E.out.2.2]; repeat (first | exact hs2 | apply Rd.drewN | exact Rd.set1 hs _ | exact Rd.set1 h _)⟩
  · have e1' : (bt p a == 92) = false := by simp [e1]
    have e1n : (bt p a != 92) = true := by simp [e1]
    have E := Lib.hid (show byteV p a = bt p a ∧ byteA p a = a + 1 ∧ byteB p a b = b from by unfold byteV byteA byteB; simp [e1])
    clear e1
    go_enter Try.func118, Try.ntmps118
    go_wp2_with fail
    go_quiet (fail)
    go_wp2_with fail
    go_ret
    exact ⟨by rw [E.out.1]; rfl, (((But.refl _ _).set1 _ _).drewN _), by rw [E.out.2.1, E.out.2.2]; exact hs⟩
end Go.Proofs.Ytinhlaiogkmkfaa.G
end
section
/- The functions of one byte that a pattern's steps hold. -/
namespace Go.Proofs.Ytinhlaiogkmkfaa.G
open Go.RowKit
attribute [local simp, local go_sem] alloc_drewN setCell_drewN
set_option linter.unusedVariables false
def Typ (w : World) (k t : Nat) : Prop := ∃ c fr, w.heap[k]? = some (.cells c t fr)
/-- The blocks of steps, and readers: what may change while a function of one byte is kept. -/
def Sty (w : World) : Nat → Prop := fun k => Typ w k 151 ∨ Typ w k 138
theorem not_sty {w : World} {k t : Nat} {c : Array Value} {fr : Nat × Nat} (h : w.heap[k]? = some (.cells c t fr)) (h1 : t ≠ 151) (h2 : t ≠ 138) : ¬ Sty w k := by
  rintro (⟨c', fr', h'⟩ | ⟨c', fr', h'⟩)
  · rw [h] at h'
    injection h' with h'
    injection h' with _ h'
    exact h1 h'
  · rw [h] at h'
    injection h' with h'
    injection h' with _ h'
    exact h2 h'
/-- f is a function of one byte that answers φ, now and later. -/
def Fits (w : World) (f : Value) (φ : Int → Bool) : Prop :=
  ∃ n cap, f = .func (.func n) #[] cap ∧ (∀ (args : Array Value) (w' : World), (callFunc n args).run Try.prog w' = .ok (.enter n args) w') ∧ ∀ w', But (Sty w) w w' → ∀ c : Int, 0 ≤ c → c ≤ 255 → Calls Try.prog n (#[.int .u8 c] ++ cap) w' fun e w'' => e = .returned (.bool (φ c)) ∧ But No w' w''
theorem sty_trans {w w' w'' : World} {S : Nat → Prop} (hb : But S w w') (hS : ∀ k, k < w.heap.size → S k → Sty w k) (hb2 : But (Sty w') w' w'') : But (Sty w) w w'' :=
  (hb.mono hS).trans_ hb2 (fun k hk hs => by
    by_cases h : Sty w k
    · exact h
    · have e := (hb.mono hS).block k hk h
      rcases hs with ⟨c, fr, hc⟩ | ⟨c, fr, hc⟩
      · exact .inl ⟨c, fr, e.symm.trans hc⟩
      · exact .inr ⟨c, fr, e.symm.trans hc⟩)
theorem Fits.later {w w' : World} {f : Value} {φ : Int → Bool} {S : Nat → Prop} (h : Fits w f φ) (hb : But S w w') (hS : ∀ k, k < w.heap.size → S k → Sty w k) : Fits w' f φ := by
  obtain ⟨n, cap, rfl, he, hc⟩ := h
  exact ⟨n, cap, rfl, he, fun w'' h2 => hc w'' (sty_trans hb hS h2)⟩
set_option maxHeartbeats 400000 in
theorem one1 (c x : Int) (g : Nat) (w : World) (hg : w.cell? ⟨g, 0, none⟩ = some (.int .u8 x)) :
    Calls Try.prog 123 #[.int .u8 c, .pointer (some ⟨g, 0, none⟩)] w fun e w' => e = .returned (.bool (c == x)) ∧ w' = w := by
  go_enter Try.func123, Try.ntmps123
  go_wp2
  go_ret
  exact ⟨rfl, rfl⟩
set_option maxHeartbeats 400000 in
theorem one0 (x : Int) (w : World) :
    Calls Try.prog 117 #[.int .u8 x] w fun e w' => e = .returned (.func (.func 123) #[] #[.pointer (some ⟨w.heap.size, 0, none⟩)]) ∧ w' = w.alloc (.cells #[.int .u8 x] 5) := by
  go_enter Try.func117, Try.ntmps117
  go_wp2
  go_ret
  exact ⟨rfl, rfl⟩
theorem one_fits (x : Int) (w : World) : Fits (w.alloc (.cells #[.int .u8 x] 5)) (.func (.func 123) #[] #[.pointer (some ⟨w.heap.size, 0, none⟩)]) (fun c => c == x) :=
  ⟨_, _, rfl, enters Try.func123 (by kernel_rfl) (by kernel_rfl), fun w' hb c _ _ => (one1 c x w.heap.size w' (hb.cell_some (p := ⟨w.heap.size, 0, none⟩) (by simp) (not_sty (heap_alloc_new w _) (by decide) (by decide)))).mono (fun e w'' ⟨he, hw⟩ => ⟨he, hw ▸ But.refl _ _⟩)⟩
theorem all0 (c : Int) (w : World) : Calls Try.prog 114 #[.int .u8 c] w fun e w' => e = .returned (.bool true) ∧ w' = w := by
  go_enter Try.func114, Try.ntmps114
  go_wp2
  go_ret
  exact ⟨rfl, rfl⟩
theorem all_fits (w : World) : Fits w (.func (.func 114) #[] #[]) (fun _ => true) :=
  ⟨_, _, rfl, enters Try.func114 (by kernel_rfl) (by kernel_rfl), fun w' _ c _ _ => (all0 c w').mono (fun e w'' ⟨he, hw⟩ => ⟨he, hw ▸ But.refl _ _⟩)⟩
theorem plain0 (c : Int) (w : World) : Calls Try.prog 115 #[.int .u8 c] w fun e w' => e = .returned (.bool (c != 47)) ∧ w' = w := by
  go_enter Try.func115, Try.ntmps115
  go_wp2
  go_ret
  exact ⟨rfl, rfl⟩
theorem plain_fits (w : World) : Fits w (.func (.func 115) #[] #[]) (fun c => c != 47) :=
  ⟨_, _, rfl, enters Try.func115 (by kernel_rfl) (by kernel_rfl), fun w' _ c _ _ => (plain0 c w').mono (fun e w'' ⟨he, hw⟩ => ⟨he, hw ▸ But.refl _ _⟩)⟩
def inTo (lo hi : Nat → Int) (c : Int) : Nat → Bool
  | 0 => false
  | k + 1 => inTo lo hi c k || (decide (lo k ≤ c) && decide (c ≤ hi k))
def classB (n : Nat) (lo hi : Nat → Int) (no : Bool) (c : Int) : Bool := (c != 47) && (inTo lo hi c n != no)
set_option maxHeartbeats 2000000 in
theorem class1 (c : Int) (gs gn n cap b : Nat) (lo hi : Nat → Int) (no : Bool) (w : World)
    (hs : w.cell? ⟨gs, 0, none⟩ = some (.slice (some ⟨b, 0, none⟩) n cap)) (hn : w.cell? ⟨gn, 0, none⟩ = some (.bool no))
    (hlo : ∀ i, i < n → w.cell? ⟨b, i * 2, none⟩ = some (.int .u8 (lo i)))
    (hhi : ∀ i, i < n → w.cell? ⟨b, i * 2 + 1, none⟩ = some (.int .u8 (hi i))) (hlen : n ≤ 1000) :
    Calls Try.prog 122 #[.int .u8 c, .pointer (some ⟨gs, 0, none⟩), .pointer (some ⟨gn, 0, none⟩)] w fun e w' => e = .returned (.bool (classB n lo hi no c)) ∧ But No w w' := by
  have hlen' : n ≤ 9223372036854775807 := by omega
  have hnlt := block_lt_of_cell hn
  simp only at hnlt
  go_enter Try.func122, Try.ntmps122
  go_wp2
  go_loopw [5, 10] (fun i j wr => ∃ k, k ≤ n ∧ i = .bool (inTo lo hi c k) ∧ j = .int .i64 k ∧ But No w wr) (fun _ j _ => n - (intOf j).toNat)
  case atStart => exact ⟨0, Nat.zero_le _, rfl, rfl, But.refl _ _⟩
  case round =>
    obtain ⟨k, hk, rfl, rfl, hb⟩ := hrel
    by_cases hlt : k < n
    · have h1 := hb.cell_some (hlo k hlt) (fun h => h)
      have h2 := hb.cell_some (hhi k hlt) (fun h => h)
      have hin : inTo lo hi c (k + 1) = (inTo lo hi c k || (decide (lo k ≤ c) && decide (c ≤ hi k))) := rfl
      have H := Lib.hid hin
      clear hin
      go_wp2
      all_goals
        go_roundw
        case rel => exact ⟨k + 1, by omega, by rw [H.out]; simp [*], by go_num, hb.alloc _⟩
        case measure => simp [intOf]; omega
    · have h3 := hb.cell_some hn (fun h => h)
      obtain rfl : k = n := by omega
      have hf : classB k lo hi no c = ((c != 47) && (inTo lo hi c k != no)) := rfl
      have H := Lib.hid hf
      clear hf
      cases e1 : (c != 47)
      · rw [e1] at H
        go_wp2
        go_ret
        exact ⟨by rw [H.out]; rfl, hb⟩
      · rw [e1] at H
        go_wp2
        go_ret
        exact ⟨by rw [H.out]; rfl, hb⟩
end Go.Proofs.Ytinhlaiogkmkfaa.G
end
section
/- The reader's brackets. -/
namespace Go.Proofs.Ytinhlaiogkmkfaa.G
open Go.RowKit
attribute [local simp, local go_sem] alloc_drewN setCell_drewN
set_option linter.unusedVariables false
set_option maxRecDepth 100000
def spanCells (l : List (Int × Int)) : List Value := l.flatMap fun s => [.int .u8 s.1, .int .u8 s.2]
theorem spanCells_append (l m : List (Int × Int)) : spanCells (l ++ m) = spanCells l ++ spanCells m := by simp [spanCells]
theorem spanCells_at (l : List (Int × Int)) : ∀ i, i < l.length → (spanCells l)[i * 2]? = some (.int .u8 (l.getD i (0, 0)).1) ∧ (spanCells l)[i * 2 + 1]? = some (.int .u8 (l.getD i (0, 0)).2) := by
  induction l with
  | nil => intro i h; simp at h
  | cons s l ih =>
    intro i h
    cases i with
    | zero => simp [spanCells]
    | succ i =>
      have := ih i (by simpa using h)
      simp only [spanCells, List.flatMap_cons] at this ⊢
      rw [show (i + 1) * 2 = i * 2 + 2 from by omega]
      simpa using this
/-- The ranges of brackets from place x on; fr: where the bracket stands. -/
def classGo (p : ByteArray) (fr : Nat) (x : Nat) (y : Int) (l : List (Int × Int)) : Nat × Int × List (Int × Int) :=
  if h : x < p.size ∧ bt p x ≠ 93 then
    if byteA p x + 1 < p.size ∧ bt p (byteA p x) = 45 ∧ bt p (byteA p x + 1) ≠ 93 then
      classGo p fr (byteA p (byteA p x + 1))
        (if byteV p (byteA p x + 1) < byteV p x then wrongAt (byteB p (byteA p x + 1) (byteB p x y)) fr else byteB p (byteA p x + 1) (byteB p x y))
        (l ++ [(byteV p x, byteV p (byteA p x + 1))])
    else classGo p fr (byteA p x) (byteB p x y) (l ++ [(byteV p x, byteV p x)])
  else (x, y, l)
termination_by p.size - x
decreasing_by
  all_goals
    have h1 : x < byteA p x := by unfold byteA; split <;> (try split) <;> omega
    have h2 : ∀ z, z < byteA p z := by intro z; unfold byteA; split <;> (try split) <;> omega
    have h3 := h2 (byteA p x + 1)
    omega
theorem byteA_lt (p : ByteArray) (x : Nat) : x < byteA p x := by unfold byteA; split <;> (try split) <;> omega
theorem byteA_le (p : ByteArray) (x : Nat) (h : x < p.size) : byteA p x ≤ p.size := by unfold byteA; split <;> (try split) <;> omega
def classL (l : List (Int × Int)) (no : Bool) (c : Int) : Bool := (c != 47) && ((l.any fun s => decide (s.1 ≤ c) && decide (c ≤ s.2)) != no)
theorem inTo_list (l : List (Int × Int)) (c : Int) : ∀ k, k ≤ l.length → inTo (fun i => (l.getD i (0, 0)).1) (fun i => (l.getD i (0, 0)).2) c k = (l.take k).any fun s => decide (s.1 ≤ c) && decide (c ≤ s.2) := by
  intro k
  induction k with
  | zero => intro _; rfl
  | succ k ih =>
    intro h
    have hk : k < l.length := by omega
    rw [inTo, ih (by omega), List.take_succ_eq_append_getElem hk, List.any_append]
    simp [List.getD_eq_getElem?_getD, List.getElem?_eq_getElem hk]
theorem classB_list (l : List (Int × Int)) (no : Bool) (c : Int) : classB l.length (fun i => (l.getD i (0, 0)).1) (fun i => (l.getD i (0, 0)).2) no c = classL l no c := by
  unfold classB classL
  rw [inTo_list l c l.length (Nat.le_refl _), List.take_length]
set_option maxHeartbeats 2000000 in
theorem class1nil (c : Int) (gs gn : Nat) (no : Bool) (w : World)
    (hs : w.cell? ⟨gs, 0, none⟩ = some (.slice none 0 0)) (hn : w.cell? ⟨gn, 0, none⟩ = some (.bool no)) :
    Calls Try.prog 122 #[.int .u8 c, .pointer (some ⟨gs, 0, none⟩), .pointer (some ⟨gn, 0, none⟩)] w fun e w' => e = .returned (.bool (classL [] no c)) ∧ But No w w' := by
  have H := Lib.hid (show classL [] no c = ((c != 47) && (false != no)) from rfl)
  go_enter Try.func122, Try.ntmps122
  go_wp2
  go_loopw [5, 10] (fun i j wr => i = .bool false ∧ j = .int .i64 0 ∧ wr = w) (fun _ j _ => 0)
  case atStart => exact ⟨rfl, rfl, rfl⟩
  case round =>
    obtain ⟨rfl, rfl, rfl⟩ := hrel
    cases e1 : (c != 47)
    · rw [e1] at H
      go_wp2
      go_ret
      exact ⟨by rw [H.out]; cases no <;> rfl, But.refl _ _⟩
    · rw [e1] at H
      go_wp2
      go_ret
      exact ⟨by rw [H.out]; cases no <;> rfl, But.refl _ _⟩
theorem class_fits (w : World) (gs gn base : Nat) (v : Value) (l : List (Int × Int)) (no : Bool)
    (hs : w.heap[gs]? = some (.cells #[v] 160 (0, 0))) (hn : w.heap[gn]? = some (.cells #[.bool no] 4 (0, 0)))
    (ho : w.ownsRow base 162 2 v l.length (spanCells l)) (hlen : l.length ≤ 1000) :
    Fits w (.func (.func 122) #[] #[.pointer (some ⟨gs, 0, none⟩), .pointer (some ⟨gn, 0, none⟩)]) (classL l no) := by
  refine ⟨_, _, rfl, enters Try.func122 (by kernel_rfl) (by kernel_rfl), fun w' hb c _ _ => ?_⟩
  have hs' := hb.cell_some (cell_of_one hs) (not_sty hs (by decide) (by decide))
  have hn' := hb.cell_some (cell_of_one hn) (not_sty hn (by decide) (by decide))
  rcases ho with ⟨_, ⟨rfl, h0⟩ | ⟨g, cap, cur, rfl, hg, hh, hc, hm, hcs, ht⟩⟩
  · obtain rfl : l = [] := List.eq_nil_of_length_eq_zero h0
    exact class1nil c gs gn no w' hs' hn'
  · have hcell : ∀ j u, (spanCells l)[j]? = some u → w.cell? ⟨g, j, none⟩ = some u := by
      intro j u hj
      rw [cell_of_row w g j cur _ _ hh, ← Array.getElem?_toList]
      rw [← ht] at hj
      rw [List.getElem?_take] at hj
      split at hj
      · exact hj
      · simp at hj
    rw [← classB_list]
    exact class1 c gs gn l.length cap g _ _ no w' hs' hn' (fun i hi => hb.cell_some (hcell _ _ (spanCells_at l i hi).1) (not_sty hh (by decide) (by decide))) (fun i hi => hb.cell_some (hcell _ _ (spanCells_at l i hi).2) (not_sty hh (by decide) (by decide))) hlen
end Go.Proofs.Ytinhlaiogkmkfaa.G
end
