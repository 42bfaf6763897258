/- Match: words. -/
import Derived.Test.YtinhlaiogkmkfaaQGh
import Derived.Test.YtinhlaiogkmkfaaQGb
import Derived.Lib.SliceRun
namespace Go.Proofs.Ytinhlaiogkmkfaa.G
open Go.RowKit
attribute [local simp, local go_sem] alloc_drewN setCell_drewN
set_option linter.unusedVariables false
set_option linter.unusedSimpArgs false
set_option maxRecDepth 100000
theorem infoBool : (Try.prog.info? 4).map (fun i => (i.zero, i.size, i.bytes)) = some (some (.bool false), 1, 1) := by kernel_rfl
theorem zeroBool (w : World) : (zeroValue 4).run Try.prog w = .ok (.bool false) w := by kernel_rfl
def none_ : Nat → Bool := fun _ => false
theorem rowB_none (n : Nat) : rowB n none_ = (List.replicate n (Value.bool false)).toArray := by
  unfold rowB none_
  congr 1
  exact List.map_const' ..  |>.trans (by simp)
theorem madeB (n : Nat) : madeCells #[.bool false] n = rowB n none_ := by
  rw [rowB_none]
  apply Array.ext'
  simp only [toList_madeCells_one]
theorem run_makeB (n : Nat) (h : n ≤ 1000) (w : World) : (Instr.makeSlice 110 (.int .i64 ((n : Int) + 1)) (.int .i64 ((n : Int) + 1))).run Try.prog w =
    .ok (.slice (some ⟨w.heap.size, 0, none⟩) (n + 1) (n + 1)) (w.alloc (.cells (rowB (n + 1) none_) 4)) := by
  obtain ⟨i0, hi0, hz0, hz1, hz2⟩ := info_parts infoBool
  have := run_make (P := Try.prog) (w := w) 110 4 i0 (.bool false) Try.underlying110 hi0 hz0 .i64 .i64 ((n : Int) + 1) ((n : Int) + 1) (by omega) (Int.le_refl _) (by rw [hz2]; omega) (by omega)
  rw [this, hz1]
  have e : ((n : Int) + 1).toNat = n + 1 := by omega
  rw [e, Nat.mul_one]
  show Result.ok _ (w.alloc (.cells (madeCells #[.bool false] (n + 1)) _)) = _
  rw [madeB]
theorem run_clearB (w : World) (g n c : Nat) (f : Nat → Bool) (hg : w.heap[g]? = some (.cells (rowB (n + 1) f) 4 (0, 0))) (ty : TypeId) :
    (Builtin.clear_ #[110] ty #[.slice (some ⟨g, 0, none⟩) (n + 1) c]).run Try.prog w = .ok (.tuple #[]) (w.setRow g (rowB (n + 1) none_)) := by
  have h1 : (Builtin.zeroCells #[Value.bool false] (n + 1)).toList = List.replicate (n + 1) (Value.bool false) := by
    have := toList_madeCells_one (Value.bool false) (n + 1)
    simpa [Builtin.zeroCells, madeCells] using this
  have h2 := run_storeCells_from (P := Try.prog) g 4 (List.replicate (n + 1) (Value.bool false)) 0 (rowB (n + 1) f) w hg (by simp [rowB_size]) (by intro v hv; rw [List.eq_of_mem_replicate hv]; rfl)
  simp only [List.take_zero, List.nil_append] at h2
  rw [← rowB_none] at h2
  simp [Builtin.clear_, run_underlying Try.underlying110, zeroBool, Value.cells, h1, h2]
theorem setRow_other (w : World) (g k : Nat) (cs : Array Value) (h : k ≠ g) : (w.setRow g cs).heap[k]? = w.heap[k]? := by
  simp only [World.setRow, Array.getElem?_modify]
  rw [if_neg (by omega)]
theorem But.setRow {S : Nat → Prop} {w w' : World} (h : But S w w') {g : Nat} (hp : S g ∨ w.heap.size ≤ g) (cs : Array Value) : But S w (w'.setRow g cs) :=
  h.trans_ (S' := One g) ⟨rfl, rfl, rfl, by simp [World.setRow], fun k _ hn => setRow_other _ _ _ _ hn⟩
    (fun b hb e => by cases hp with
      | inl hp => exact e ▸ hp
      | inr hp => exact absurd hb (by unfold One at e; omega))
/-- Where the marks go when byte c is read, steps 0 to k - 1. -/
def nextTo (L : List Stp) (S : Nat → Bool) (c : Int) : Nat → Nat → Bool
  | 0 => none_
  | k + 1 => fun j => match L[k]? with
    | some q => if S k = true ∧ q.fits c = true ∧ j = (if q.many then k else k + 1) then true else nextTo L S c k j
    | none => nextTo L S c k j
def manyOf (L : List Stp) (i : Nat) : Bool := match L[i]? with
  | some q => q.many
  | none => false
def start (L : List Stp) : Nat → Bool := thruTo (manyOf L) L.length (fun j => j == 0)
def stepOn (L : List Stp) (S : Nat → Bool) (c : Int) : Nat → Bool := thruTo (manyOf L) L.length (nextTo L S c L.length)
def marks (L : List Stp) (s : ByteArray) : Nat → Nat → Bool
  | 0 => start L
  | k + 1 => stepOn L (marks L s k) (bt s k)
def matchRes (p s : ByteArray) : Bool × Int := if (checkRes p).2 = 0 then (marks (gSteps p).2 s s.size (gSteps p).2.length, 0) else (false, (checkRes p).2)
theorem through_any (n cap : Nat) (A : Option Addr) (many : Nat → Bool) (fn : Nat → Nat) (cp : Nat → Array Value) (g : Nat) (at_ : Nat → Bool) (w : World)
    (hA : ∀ i, i < n → ∃ b, A = some ⟨b, 0, none⟩ ∧ b ≠ g ∧ w.cell? ⟨b, i * 2, none⟩ = some (.bool (many i)) ∧ w.cell? ⟨b, i * 2 + 1, none⟩ = some (.func (.func (fn i)) #[] (cp i)))
    (hlen : n ≤ 1000)
    (hat : w.heap[g]? = some (.cells (rowB (n + 1) at_) 4 (0, 0))) :
    Calls Try.prog 112 #[.slice A n cap, .slice (some ⟨g, 0, none⟩) (n + 1) (n + 1)] w fun e w' => e = .returned (.tuple #[]) ∧ But (One g) w w' ∧ w'.heap[g]? = some (.cells (rowB (n + 1) (thruTo many n at_)) 4 (0, 0)) := by
  rcases Nat.eq_zero_or_pos n with h0 | h0
  · subst h0
    go_enter Try.func112, Try.ntmps112
    go_wp2
    go_loopw [8] (fun i wr => i = .int .i64 0 ∧ wr = w) (fun i _ => 0)
    case atStart => exact ⟨rfl, rfl⟩
    case round =>
      obtain ⟨rfl, rfl⟩ := hrel
      go_wp2
      go_end0
      exact ⟨rfl, But.refl _ _, hat⟩
  · obtain ⟨b, rfl, hne, _, _⟩ := hA 0 h0
    have h1 : ∀ i, i < n → w.cell? ⟨b, i * 2, none⟩ = some (.bool (many i)) ∧ w.cell? ⟨b, i * 2 + 1, none⟩ = some (.func (.func (fn i)) #[] (cp i)) := by
      intro i hi
      obtain ⟨b', hb', _, c1, c2⟩ := hA i hi
      injection hb' with hb'
      injection hb' with hb'
      subst hb'
      exact ⟨c1, c2⟩
    exact through n cap b many fn cp g at_ w (fun i hi => (h1 i hi).1) (fun i hi => (h1 i hi).2) hlen hne hat
end Go.Proofs.Ytinhlaiogkmkfaa.G
