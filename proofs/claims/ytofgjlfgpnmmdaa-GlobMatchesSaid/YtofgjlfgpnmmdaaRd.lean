/- The reference's brackets: what they are read as. -/
import Derived.Test.YtofgjlfgpnmmdaaRc
namespace Go.Proofs.Ytofgjlfgpnmmdaa.G
open Go.RowKit
attribute [local simp, local go_sem] alloc_drewN setCell_drewN setRow_drewN
set_option linter.unusedVariables false
set_option linter.unusedSimpArgs false
/-- The ranges of brackets from place x on, or none where the reference refuses. -/
def rgo (p : ByteArray) (x : Nat) (R : List (Int × Int)) : Option (Nat × List (Int × Int)) :=
  if h : goes p x = true then
    if escBad p x then none
    else if dash p (byteA p x) then
      if escBad p (byteA p x + 1) then none
      else if byteV p (byteA p x + 1) < byteV p x then none
      else rgo p (byteA p (byteA p x + 1)) (R ++ [(byteV p x, byteV p (byteA p x + 1))])
    else rgo p (byteA p x) (R ++ [(byteV p x, byteV p x)])
  else some (x, R)
termination_by p.size - x
decreasing_by
  all_goals
    have h1 := byteA_lt p x
    have h2 := byteA_lt p (byteA p x + 1)
    have h3 := goes_lt h
    omega
theorem rgo_stop {p : ByteArray} {x : Nat} (R : List (Int × Int)) (h : goes p x = false) : rgo p x R = some (x, R) := by
  rw [rgo, dif_neg (by rw [h]; simp)]
theorem rgo_bad {p : ByteArray} {x : Nat} (R : List (Int × Int)) (h : goes p x = true) (h1 : escBad p x = true) : rgo p x R = none := by
  rw [rgo, dif_pos h, if_pos h1]
theorem rgo_one {p : ByteArray} {x : Nat} (R : List (Int × Int)) (h : goes p x = true) (h1 : escBad p x = false) (h2 : dash p (byteA p x) = false) : rgo p x R = rgo p (byteA p x) (R ++ [(byteV p x, byteV p x)]) := by
  rw [rgo, dif_pos h, if_neg (by rw [h1]; simp), if_neg (by rw [h2]; simp)]
theorem rgo_bad2 {p : ByteArray} {x : Nat} (R : List (Int × Int)) (h : goes p x = true) (h1 : escBad p x = false) (h2 : dash p (byteA p x) = true) (h3 : escBad p (byteA p x + 1) = true) : rgo p x R = none := by
  rw [rgo, dif_pos h, if_neg (by rw [h1]; simp), if_pos h2, if_pos h3]
theorem rgo_turned {p : ByteArray} {x : Nat} (R : List (Int × Int)) (h : goes p x = true) (h1 : escBad p x = false) (h2 : dash p (byteA p x) = true) (h3 : escBad p (byteA p x + 1) = false) (h4 : byteV p (byteA p x + 1) < byteV p x) : rgo p x R = none := by
  rw [rgo, dif_pos h, if_neg (by rw [h1]; simp), if_pos h2, if_neg (by rw [h3]; simp), if_pos h4]
theorem rgo_two {p : ByteArray} {x : Nat} (R : List (Int × Int)) (h : goes p x = true) (h1 : escBad p x = false) (h2 : dash p (byteA p x) = true) (h3 : escBad p (byteA p x + 1) = false) (h4 : ¬ byteV p (byteA p x + 1) < byteV p x) :
    rgo p x R = rgo p (byteA p (byteA p x + 1)) (R ++ [(byteV p x, byteV p (byteA p x + 1))]) := by
  rw [rgo, dif_pos h, if_neg (by rw [h1]; simp), if_pos h2, if_neg (by rw [h3]; simp), if_neg h4]
theorem dash_goes {p : ByteArray} {x : Nat} (h : dash p x = true) : goes p (x + 1) = true := by
  unfold dash at h
  simp at h
  unfold goes
  simp
  exact ⟨h.1, h.2.2⟩
/-- Is the byte in one of the ranges? -/
def inR (R : List (Int × Int)) (c : Nat) : Bool := R.any fun s => decide (s.1 ≤ (c : Int)) && decide ((c : Int) ≤ s.2)
theorem inR_nil : inR [] = nof := rfl
theorem pc_congr {k : Int} {f g : Nat → Bool} (h : ∀ c, c < 256 → f c = g c) : pc k f = pc k g := by
  simp only [pc, pcL]
  congr 2
  refine List.map_congr_left fun c hc => ?_
  rw [h c (List.mem_range.1 hc)]
def fillR (R : List (Int × Int)) (lo c : Nat) (i : Nat) : Bool := inR R i || (decide (lo ≤ i) && decide (i < c))
theorem fillR_start (R : List (Int × Int)) (lo : Nat) : fillR R lo lo = inR R := by
  funext i
  unfold fillR
  by_cases h1 : lo ≤ i
  · have h2 : ¬ i < lo := by omega
    simp [h2]
  · simp [h1]
theorem fillR_step (R : List (Int × Int)) (lo c : Nat) (h : lo ≤ c) : (fun i => if i = c then true else fillR R lo c i) = fillR R lo (c + 1) := by
  funext i
  unfold fillR
  by_cases e : i = c
  · subst e
    simp [h]
  · rw [if_neg e]
    have : (i < c + 1) ↔ i < c := by omega
    simp [this]
theorem fillR_end (R : List (Int × Int)) (lo hi : Nat) : fillR R lo (hi + 1) = inR (R ++ [((lo : Int), (hi : Int))]) := by
  funext i
  unfold fillR inR
  rw [List.any_append]
  have h1 : ((lo : Int) ≤ (i : Int)) ↔ lo ≤ i := by omega
  have h2 : ((i : Int) ≤ (hi : Int)) ↔ i < hi + 1 := by omega
  simp [h1, h2]
def turnR (R : List (Int × Int)) (no : Bool) (c : Nat) (i : Nat) : Bool := if i < c then (inR R i != no) && (i != 47) else inR R i
theorem turnR_start (R : List (Int × Int)) (no : Bool) : turnR R no 0 = inR R := by
  funext i
  simp [turnR]
theorem turnR_at (R : List (Int × Int)) (no : Bool) (c : Nat) : turnR R no c c = inR R c := by simp [turnR]
theorem turnR_step (R : List (Int × Int)) (no : Bool) (c : Nat) : (fun i => if i = c then ((inR R c != no) && (c != 47)) else turnR R no c i) = turnR R no (c + 1) := by
  funext i
  unfold turnR
  by_cases e : i = c
  · subst e
    simp
  · rw [if_neg e]
    have : (i < c + 1) ↔ i < c := by omega
    simp [this]
theorem classL_in (R : List (Int × Int)) (no : Bool) (i : Nat) : ((inR R i != no) && (i != 47)) = classL R no (i : Int) := by
  have hh : (i != 47) = ((i : Int) != 47) := by
    rw [Bool.eq_iff_iff]
    simp
    omega
  unfold classL inR
  rw [Bool.and_comm, hh]
theorem turnR_end (R : List (Int × Int)) (no : Bool) : pc 0 (turnR R no 256) = pc 0 (fun c => classL R no (c : Int)) := by
  refine pc_congr fun c hc => ?_
  unfold turnR
  rw [if_pos hc, classL_in]
/-- The brackets that stand at place fr: the place behind them and the bytes that they fit. -/
def brk (p : ByteArray) (fr : Nat) : Option (Nat × (Int → Bool)) :=
  match rgo p (if notAt p (fr + 1) then fr + 2 else fr + 1) [] with
  | some (z, R) => if z < p.size ∧ R ≠ [] then some (z + 1, classL R (notAt p (fr + 1))) else none
  | none => none
theorem resBrk (tmps : Array Value) (w : World) (g : Nat) (k : Int) (f : Nat → Bool) (hp : tmps.getD 4 undef = .pointer (some ⟨g, 0, none⟩)) (hg : w.heap[g]? = some (.cells (pc k f) 47 (0, 0))) :
    (results Try.f22 tmps).run Try.prog w = .ok (.tuple #[.agg (pc k f), tmps.getD 5 undef, tmps.getD 6 undef]) w := by
  obtain ⟨l, hl⟩ := underPc
  have h := run_loadVar_row (P := Try.prog) w g _ 47 (pc k f) (0, 0) _ hg hl rfl (sizePc k f)
  have hr : Try.f22.results = #[.cell 4 47, .tmp 5, .tmp 6] := rfl
  have hp' : tmps[4]?.getD undef = .pointer (some ⟨g, 0, none⟩) := by simpa using hp
  simp only [results, hr]
  simp [Sem.run_bind, Result.andThen, hp', asAddr, h]
end Go.Proofs.Ytofgjlfgpnmmdaa.G
