/- Texts of this claim, joined: words and laws that the others use. -/
import Derived.Test.YtinhlaiogkmkfaaQGg
import Derived.Deep.WholeRow
import Derived.Laws.ResultCell
import Derived.StillTailTactics
import Derived.IntWalk
section
/- The reference's pieces: a row of a kind and 256 marks, as one value; a single byte's piece. -/
namespace Go.Proofs.Ytinhlaiogkmkfaa.G
open Go.RowKit
attribute [local simp, local go_sem] alloc_drewN setCell_drewN
set_option linter.unusedVariables false
set_option linter.unusedSimpArgs false
/-- The cells of a piece: its kind, and a mark for each byte. -/
def pcL (k : Int) (f : Nat → Bool) : List Value := .int .i64 k :: (List.range 256).map fun c => .bool (f c)
def pc (k : Int) (f : Nat → Bool) : Array Value := (pcL k f).toArray
theorem pcL_length (k : Int) (f : Nat → Bool) : (pcL k f).length = 257 := by simp only [pcL, List.length_cons, List.length_map, List.length_range]
theorem pc_size (k : Int) (f : Nat → Bool) : (pc k f).size = 257 := by simp only [pc, List.size_toArray, pcL_length]
theorem pcL_kind (k : Int) (f : Nat → Bool) : (pcL k f)[0]? = some (.int .i64 k) := rfl
theorem pcL_at (k : Int) (f : Nat → Bool) (i : Nat) (h : i < 256) : (pcL k f)[i + 1]? = some (.bool (f i)) := by
  simp only [pcL, List.getElem?_cons_succ, List.getElem?_map, List.getElem?_range h, Option.map_some]
theorem pc_kind (k : Int) (f : Nat → Bool) : (pc k f)[0]? = some (.int .i64 k) := by rw [pc, List.getElem?_toArray]; exact pcL_kind k f
theorem pc_at (k : Int) (f : Nat → Bool) (i : Nat) (h : i < 256) : (pc k f)[i + 1]? = some (.bool (f i)) := by rw [pc, List.getElem?_toArray]; exact pcL_at k f i h
theorem pc_set (k : Int) (f : Nat → Bool) (i : Nat) (b : Bool) : (pc k f).setIfInBounds (i + 1) (.bool b) = pc k (fun c => if c = i then b else f c) := by
  apply Array.ext_getElem?
  intro j
  rw [Array.getElem?_setIfInBounds]
  rcases j with _ | j
  · rw [if_neg (by omega), pc_kind, pc_kind]
  · by_cases hj : j < 256
    · rw [pc_at _ _ j hj, pc_at _ _ j hj]
      by_cases e : i = j
      · subst e
        rw [if_pos rfl, if_pos (by rw [pc_size]; omega)]
        simp
      · rw [if_neg (by omega)]
        have e' : ¬ j = i := fun h => e h.symm
        simp [e']
    · have h1 : ∀ g, (pc k g)[j + 1]? = none := fun g => Array.getElem?_eq_none (by rw [pc_size]; omega)
      rw [h1, h1]
      by_cases e : i + 1 = j + 1
      · rw [if_pos e, if_neg (by rw [pc_size]; omega)]
      · rw [if_neg e]
theorem pcL_one (k : Int) (f : Nat → Bool) : ∀ v ∈ pcL k f, v.oneCell' = true := by
  intro v hv
  simp only [pcL, List.mem_cons, List.mem_map] at hv
  rcases hv with rfl | ⟨c, _, rfl⟩ <;> rfl
theorem pc_one (k : Int) (f : Nat → Bool) : (pc k f).all (·.oneCell') = true :=
  Array.all_eq_true_iff_forall_mem.2 (fun v hv => pcL_one k f v (by simpa [pc] using hv))
def nof : Nat → Bool := fun _ => false
theorem infoPc : (Try.prog.info? 132).map (fun i => (i.zero, i.size, i.bytes)) = some (some (.agg (pc 0 nof)), 257, 264) := by kernel_rfl
theorem underPc : ∃ l, Try.prog.underlying 132 = some (.struct l) := by
  have h : (match Try.prog.underlying 132 with | some (.struct _) => true | _ => false) = true := by kernel_rfl
  split at h
  · rename_i l hl
    exact ⟨l, hl⟩
  · cases h
theorem builtPc1 : Try.prog.built 132 [(0, .int .i64 1)] = some (pc 1 nof) := by kernel_rfl
theorem builtPc2 : Try.prog.built 132 [(0, .int .i64 2)] = some (pc 2 nof) := by kernel_rfl
theorem builtPc0 : Try.prog.built 132 [] = some (pc 0 nof) := by kernel_rfl
theorem zeroPc : ∀ w, (zeroValue 132).run Try.prog w = .ok (.agg (pc 0 nof)) w := by
  have h := infoPc
  cases hq : Try.prog.info? 132 with
  | none => simp [hq] at h
  | some i =>
    simp only [hq, Option.map_some, Option.some.injEq, Prod.mk.injEq] at h
    exact fun w => by simp only [zeroValue, typeInfo, hq, h.1, Sem.run_bind, Result.andThen, Sem.run_pure]; simp [go_sem, hq, h.1]
theorem sizePc (k : Int) (f : Nat → Bool) : (Try.prog.info? 132).map (·.size) = some (pc k f).size := by
  rw [pc_size]
  have h := infoPc
  cases hq : Try.prog.info? 132 with
  | none => simp [hq] at h
  | some i => simp only [hq, Option.map_some, Option.some.injEq, Prod.mk.injEq] at h; simp [h.2.1]
theorem pc_at' (k : Int) (f : Nat → Bool) (i : Nat) (h : i < 256) : (pc k f)[1 + i]? = some (.bool (f i)) := by rw [Nat.add_comm]; exact pc_at k f i h
theorem pc_set' (k : Int) (f : Nat → Bool) (i : Nat) (b : Bool) : (pc k f).setIfInBounds (1 + i) (.bool b) = pc k (fun c => if c = i then b else f c) := by rw [Nat.add_comm]; exact pc_set k f i b
theorem loadPc {ops : Array Oper} {rest : List Oper} {o : Oper} {a : Act} {w : World} {Q : Exit → Act → World → Prop} (hgd : o.guard = none) (x : Operand) (ho : o.op = .load 132 x)
    (g : Nat) (hx : a.eval x = .pointer (some ⟨g, 0, none⟩)) (k : Int) (f : Nat → Bool) (hg : w.heap[g]? = some (.cells (pc k f) 132 (0, 0)))
    (h : wpList Try.prog ops Q rest (a.put o.dst (.agg (pc k f))) w) : wpList Try.prog ops Q (o :: rest) a w := by
  obtain ⟨l, hl⟩ := underPc
  exact wpList_load_row hgd _ x ho g hx _ _ _ _ hg hl rfl (sizePc k f) h
theorem storePc {ops : Array Oper} {rest : List Oper} {o : Oper} {a : Act} {w : World} {Q : Exit → Act → World → Prop} (hgd : o.guard = none) (x y : Operand) (ho : o.op = .store 132 x y)
    (g : Nat) (k : Int) (f : Nat → Bool) (hx : a.eval x = .pointer (some ⟨g, 0, none⟩)) (hy : a.eval y = .agg (pc k f)) (k0 : Int) (f0 : Nat → Bool)
    (hg : w.heap[g]? = some (.cells (pc k0 f0) 132 (0, 0)))
    (h : wpList Try.prog ops Q rest (a.put o.dst undef) (w.setRow g (pc k f))) : wpList Try.prog ops Q (o :: rest) a w :=
  wpList_store_row hgd _ x y ho g _ hx hy _ _ hg (sizePc k f) (by rw [pc_size, pc_size]) (pc_one k f) h
theorem But.setRowR {S : Nat → Prop} {w w' : World} (h : But S w w') {g : Nat} (hg : S g ∨ w.heap.size ≤ g) (cs : Array Value) : But S w (w'.setRow g cs) :=
  h.trans_ (S' := One g) ⟨rfl, rfl, rfl, by simp, fun k _ hn => setRow_other _ _ _ _ hn⟩
    (fun b hb e => by cases hg with
      | inl hp => exact e ▸ hp
      | inr hp => exact absurd hb (by unfold One at e; omega))
theorem setRow_drewN (w : World) (n g : Nat) (cs : Array Value) : (w.drewN n).setRow g cs = (w.setRow g cs).drewN n := rfl
end Go.Proofs.Ytinhlaiogkmkfaa.G
end
section
/- The reference's single byte. -/
namespace Go.Proofs.Ytinhlaiogkmkfaa.G
open Go.RowKit
attribute [local simp, local go_sem] alloc_drewN setCell_drewN
set_option linter.unusedVariables false
set_option linter.unusedSimpArgs false
set_option maxRecDepth 100000 in
set_option maxHeartbeats 2000000 in
theorem single0 (x : Nat) (hx : x < 256) (w : World) :
    Calls Try.prog 111 #[.int .u8 (x : Nat)] w fun e w' => e = .returned (.agg (pc 0 (fun c => decide (c = x)))) ∧ But No w w' := by
  have hv := zeroPc
  have hx' : (x : Int) < 256 := by omega
  have h1 := pc_at' 0 nof x hx
  have h2 : (pc 0 nof).setIfInBounds (1 + x) (.bool true) = pc 0 (fun c => decide (c = x)) := by
    rw [pc_set']
    rfl
  go_enter Try.func111, Try.ntmps111
  go_wp2_with (first | refine loadPc rfl _ rfl _ rfl 0 (fun c => decide (c = x)) (heap_alloc2_new w _ _) ?_ | refine storePc rfl _ _ rfl _ 0 (fun c => decide (c = x)) rfl rfl 0 nof (heap_alloc2_old w _ _) ?_)
  obtain ⟨l, hl⟩ := underPc
  refine bodyPost_ret (v := .agg (pc 0 fun c => decide (c = x))) ?_ rfl ⟨rfl, ?_⟩
  · exact results_cell_row rfl _ _ w.heap.size _ _ (0, 0) _ rfl (setRow_heap _ _ _ _ _ _ (heap_alloc2_old w _ _)) hl rfl (sizePc _ _)
  · exact (((But.refl No w).alloc _).alloc _).setRowR (.inr (Nat.le_refl _)) _
end Go.Proofs.Ytinhlaiogkmkfaa.G
end
section
/- The reference's byte in brackets. -/
namespace Go.Proofs.Ytinhlaiogkmkfaa.G
open Go.RowKit
attribute [local simp, local go_sem] alloc_drewN setCell_drewN setRow_drewN
set_option linter.unusedVariables false
set_option linter.unusedSimpArgs false
/-- A backslash that nothing follows. -/
def escBad (p : ByteArray) (x : Nat) : Bool := bt p x == 92 && decide (p.size ≤ x + 1)
def byteOk (p : ByteArray) (x : Nat) : Bool := goes p x && !escBad p x
theorem byteOk_go {p : ByteArray} {x : Nat} (h : byteOk p x = true) : goes p x = true ∧ escBad p x = false := by
  simpa [byteOk] using h
theorem rbytes_ok (p : ByteArray) (x : Nat) (w : World) (hp : p.size ≤ 256) (h : byteOk p x = true) :
    Calls Try.prog 120 #[.string p, .int .i64 (x : Nat)] w fun e w' => e = .returned (.tuple #[.int .u8 (byteV p x), .int .i64 (byteA p x : Nat), .bool true]) ∧ ∃ n, w' = w.drewN n := by
  obtain ⟨h1, h2⟩ := byteOk_go h
  clear h
  have hx := goes_lt h1
  have hb := bt_at p x hx
  have hp' : p.size ≤ 9223372036854775807 := by omega
  have e93 : (bt p x == 93) = false := by
    unfold goes at h1
    simp at h1
    simpa using h1.2
  have hxx : (x : Int) < (p.size : Int) := by omega
  have hxn : ¬ ((p.size : Int) ≤ (x : Int)) := by omega
  by_cases e : bt p x = 92
  · have e92 : (bt p x == 92) = true := by simp [e]
    have hlt : x + 1 < p.size := by
      unfold escBad at h2
      simp [e] at h2
      exact h2
    have hb1 := bt_at p (x + 1) hlt
    have E1 := Lib.hid (show byteV p x = bt p (x + 1) from by unfold byteV; rw [if_pos e, if_neg (by omega)])
    have E2 := Lib.hid (show byteA p x = x + 2 from by unfold byteA; rw [if_pos e, if_neg (by omega)])
    have hxn1 : ¬ ((p.size : Int) ≤ (x : Int) + 1) := by omega
    have hdn1 : decide ((p.size : Int) ≤ (x : Int) + 1) = false := by simp; omega
    have hdn : decide ((p.size : Int) ≤ (x : Int)) = false := by simp; omega
    clear h1 h2 e
    go_enter Try.func120, Try.ntmps120
    go_wp2
    go_ret3
    exact ⟨by rw [E1.out, E2.out]; rfl, 0, rfl⟩
  · have e92 : (bt p x == 92) = false := by simp [e]
    have E1 := Lib.hid (show byteV p x = bt p x from by unfold byteV; rw [if_neg e])
    have E2 := Lib.hid (show byteA p x = x + 1 from by unfold byteA; rw [if_neg e])
    have hdn : decide ((p.size : Int) ≤ (x : Int)) = false := by simp; omega
    clear h1 h2 e
    go_enter Try.func120, Try.ntmps120
    go_wp2
    go_ret3
    exact ⟨by rw [E1.out, E2.out]; rfl, 0, rfl⟩
theorem rbytes_no (p : ByteArray) (x : Nat) (w : World) (hp : p.size ≤ 256) (hx : x ≤ p.size) (h : byteOk p x = false) :
    Calls Try.prog 120 #[.string p, .int .i64 (x : Nat)] w fun e w' => e = .returned (.tuple #[.int .u8 0, .int .i64 (x : Nat), .bool false]) ∧ ∃ n, w' = w.drewN n := by
  have hp' : p.size ≤ 9223372036854775807 := by omega
  by_cases hlt : x < p.size
  · have hb := bt_at p x hlt
    have hdn : decide ((p.size : Int) ≤ (x : Int)) = false := by simp; omega
    have hxx : (x : Int) < (p.size : Int) := by omega
    have hxn : ¬ ((p.size : Int) ≤ (x : Int)) := by omega
    by_cases e3 : bt p x = 93
    · have e93 : (bt p x == 93) = true := by simp [e3]
      clear h e3
      go_enter Try.func120, Try.ntmps120
      go_wp2
      go_ret3
      exact ⟨rfl, 0, rfl⟩
    · have e93 : (bt p x == 93) = false := by simp [e3]
      obtain ⟨e, hle⟩ : bt p x = 92 ∧ p.size ≤ x + 1 := by
        unfold byteOk goes escBad at h
        simp [hlt, e3] at h
        exact h
      have e92 : (bt p x == 92) = true := by simp [e]
      have hx1 : ((p.size : Int) ≤ (x : Int) + 1) := by omega
      have hd1 : decide ((p.size : Int) ≤ (x : Int) + 1) = true := by simp; omega
      clear h e3 e hle
      go_enter Try.func120, Try.ntmps120
      go_wp2
      go_ret3
      exact ⟨rfl, 0, rfl⟩
  · have hdn : decide ((p.size : Int) ≤ (x : Int)) = true := by simp; omega
    have hxn : ((p.size : Int) ≤ (x : Int)) := by omega
    have hnx : ¬ ((x : Int) < (p.size : Int)) := by omega
    clear h
    go_enter Try.func120, Try.ntmps120
    go_wp2
    go_ret3
    exact ⟨rfl, 0, rfl⟩
end Go.Proofs.Ytinhlaiogkmkfaa.G
end
section
/- The reference's brackets: what they are read as. -/
namespace Go.Proofs.Ytinhlaiogkmkfaa.G
open Go.RowKit
attribute [local simp, local go_sem] alloc_drewN setCell_drewN setRow_drewN
set_option linter.unusedVariables false
set_option linter.unusedSimpArgs false
/-- The ranges of brackets from place x on, or none where the reference refuses. -/
def rgo (p : ByteArray) (x : Nat) (R : List (Int × Int)) : Option (Nat × List (Int × Int)) :=
  if h : goes p x = true then
    if escBad p x then none
    else if dash p (byteA p x) then
      if escBad p (byteA p x + 1) then none
      else if byteV p (byteA p x + 1) < byteV p x then none
      else rgo p (byteA p (byteA p x + 1)) (R ++ [(byteV p x, byteV p (byteA p x + 1))])
    else rgo p (byteA p x) (R ++ [(byteV p x, byteV p x)])
  else some (x, R)
termination_by p.size - x
decreasing_by
  all_goals
    have h1 := byteA_lt p x
    have h2 := byteA_lt p (byteA p x + 1)
    have h3 := goes_lt h
    omega
theorem rgo_stop {p : ByteArray} {x : Nat} (R : List (Int × Int)) (h : goes p x = false) : rgo p x R = some (x, R) := by
  rw [rgo, dif_neg (by rw [h]; simp)]
theorem rgo_bad {p : ByteArray} {x : Nat} (R : List (Int × Int)) (h : goes p x = true) (h1 : escBad p x = true) : rgo p x R = none := by
  rw [rgo, dif_pos h, if_pos h1]
theorem rgo_one {p : ByteArray} {x : Nat} (R : List (Int × Int)) (h : goes p x = true) (h1 : escBad p x = false) (h2 : dash p (byteA p x) = false) : rgo p x R = rgo p (byteA p x) (R ++ [(byteV p x, byteV p x)]) := by
  rw [rgo, dif_pos h, if_neg (by rw [h1]; simp), if_neg (by rw [h2]; simp)]
theorem rgo_bad2 {p : ByteArray} {x : Nat} (R : List (Int × Int)) (h : goes p x = true) (h1 : escBad p x = false) (h2 : dash p (byteA p x) = true) (h3 : escBad p (byteA p x + 1) = true) : rgo p x R = none := by
  rw [rgo, dif_pos h, if_neg (by rw [h1]; simp), if_pos h2, if_pos h3]
theorem rgo_turned {p : ByteArray} {x : Nat} (R : List (Int × Int)) (h : goes p x = true) (h1 : escBad p x = false) (h2 : dash p (byteA p x) = true) (h3 : escBad p (byteA p x + 1) = false) (h4 : byteV p (byteA p x + 1) < byteV p x) : rgo p x R = none := by
  rw [rgo, dif_pos h, if_neg (by rw [h1]; simp), if_pos h2, if_neg (by rw [h3]; simp), if_pos h4]
theorem rgo_two {p : ByteArray} {x : Nat} (R : List (Int × Int)) (h : goes p x = true) (h1 : escBad p x = false) (h2 : dash p (byteA p x) = true) (h3 : escBad p (byteA p x + 1) = false) (h4 : ¬ byteV p (byteA p x + 1) < byteV p x) :
    rgo p x R = rgo p (byteA p (byteA p x + 1)) (R ++ [(byteV p x, byteV p (byteA p x + 1))]) := by
  rw [rgo, dif_pos h, if_neg (by rw [h1]; simp), if_pos h2, if_neg (by rw [h3]; simp), if_neg h4]
theorem dash_goes {p : ByteArray} {x : Nat} (h : dash p x = true) : goes p (x + 1) = true := by
  unfold dash at h
  simp at h
  unfold goes
  simp
  exact ⟨h.1, h.2.2⟩
/-- Is the byte in one of the ranges? -/
def inR (R : List (Int × Int)) (c : Nat) : Bool := R.any fun s => decide (s.1 ≤ (c : Int)) && decide ((c : Int) ≤ s.2)
theorem inR_nil : inR [] = nof := rfl
theorem pc_congr {k : Int} {f g : Nat → Bool} (h : ∀ c, c < 256 → f c = g c) : pc k f = pc k g := by
  simp only [pc, pcL]
  congr 2
  refine List.map_congr_left fun c hc => ?_
  rw [h c (List.mem_range.1 hc)]
def fillR (R : List (Int × Int)) (lo c : Nat) (i : Nat) : Bool := inR R i || (decide (lo ≤ i) && decide (i < c))
theorem fillR_start (R : List (Int × Int)) (lo : Nat) : fillR R lo lo = inR R := by
  funext i
  unfold fillR
  by_cases h1 : lo ≤ i
  · have h2 : ¬ i < lo := by omega
    simp [h2]
  · simp [h1]
theorem fillR_step (R : List (Int × Int)) (lo c : Nat) (h : lo ≤ c) : (fun i => if i = c then true else fillR R lo c i) = fillR R lo (c + 1) := by
  funext i
  unfold fillR
  by_cases e : i = c
  · subst e
    simp [h]
  · rw [if_neg e]
    have : (i < c + 1) ↔ i < c := by omega
    simp [this]
theorem fillR_end (R : List (Int × Int)) (lo hi : Nat) : fillR R lo (hi + 1) = inR (R ++ [((lo : Int), (hi : Int))]) := by
  funext i
  unfold fillR inR
  rw [List.any_append]
  have h1 : ((lo : Int) ≤ (i : Int)) ↔ lo ≤ i := by omega
  have h2 : ((i : Int) ≤ (hi : Int)) ↔ i < hi + 1 := by omega
  simp [h1, h2]
def turnR (R : List (Int × Int)) (no : Bool) (c : Nat) (i : Nat) : Bool := if i < c then (inR R i != no) && (i != 47) else inR R i
theorem turnR_start (R : List (Int × Int)) (no : Bool) : turnR R no 0 = inR R := by
  funext i
  simp [turnR]
theorem turnR_at (R : List (Int × Int)) (no : Bool) (c : Nat) : turnR R no c c = inR R c := by simp [turnR]
theorem turnR_step (R : List (Int × Int)) (no : Bool) (c : Nat) : (fun i => if i = c then ((inR R c != no) && (c != 47)) else turnR R no c i) = turnR R no (c + 1) := by
  funext i
  unfold turnR
  by_cases e : i = c
  · subst e
    simp
  · rw [if_neg e]
    have : (i < c + 1) ↔ i < c := by omega
    simp [this]
theorem classL_in (R : List (Int × Int)) (no : Bool) (i : Nat) : ((inR R i != no) && (i != 47)) = classL R no (i : Int) := by
  have hh : (i != 47) = ((i : Int) != 47) := by
    rw [Bool.eq_iff_iff]
    simp
    omega
  unfold classL inR
  rw [Bool.and_comm, hh]
theorem turnR_end (R : List (Int × Int)) (no : Bool) : pc 0 (turnR R no 256) = pc 0 (fun c => classL R no (c : Int)) := by
  refine pc_congr fun c hc => ?_
  unfold turnR
  rw [if_pos hc, classL_in]
/-- The brackets that stand at place fr: the place behind them and the bytes that they fit. -/
def brk (p : ByteArray) (fr : Nat) : Option (Nat × (Int → Bool)) :=
  match rgo p (if notAt p (fr + 1) then fr + 2 else fr + 1) [] with
  | some (z, R) => if z < p.size ∧ R ≠ [] then some (z + 1, classL R (notAt p (fr + 1))) else none
  | none => none
theorem resBrk (tmps : Array Value) (w : World) (g : Nat) (k : Int) (f : Nat → Bool) (hp : tmps.getD 4 undef = .pointer (some ⟨g, 0, none⟩)) (hg : w.heap[g]? = some (.cells (pc k f) 132 (0, 0))) :
    (results Try.f110 tmps).run Try.prog w = .ok (.tuple #[.agg (pc k f), tmps.getD 5 undef, tmps.getD 6 undef]) w := by
  obtain ⟨l, hl⟩ := underPc
  have h := run_loadVar_row (P := Try.prog) w g _ 132 (pc k f) (0, 0) _ hg hl rfl (sizePc k f)
  have hr : Try.f110.results = #[.cell 4 132, .tmp 5, .tmp 6] := rfl
  have hp' : tmps[4]?.getD undef = .pointer (some ⟨g, 0, none⟩) := by simpa using hp
  simp only [results, hr]
  simp [Sem.run_bind, Result.andThen, hp', asAddr, h]
end Go.Proofs.Ytinhlaiogkmkfaa.G
end
section
/- The reference's brackets: the walk. -/
namespace Go.Proofs.Ytinhlaiogkmkfaa.G
open Go.RowKit
attribute [local simp, local go_sem] alloc_drewN setCell_drewN
set_option linter.unusedVariables false
set_option linter.unusedSimpArgs false
set_option maxRecDepth 100000
/-- Two pieces of its own, the first one still empty. -/
def Two (w : World) (f : Nat → Bool) (wr : World) : Prop :=
  But No w wr ∧ wr.heap[w.heap.size]? = some (.cells (pc 0 nof) 132 (0, 0)) ∧ wr.heap[w.heap.size + 1]? = some (.cells (pc 0 f) 132 (0, 0))
theorem Two.drewN {w wr : World} {f : Nat → Bool} (h : Two w f wr) (n : Nat) : Two w f (wr.drewN n) := ⟨h.1.drewN n, h.2.1, h.2.2⟩
theorem Two.set {w wr : World} {f g : Nat → Bool} (h : Two w f wr) (i : Nat) (b : Bool) (hg : (fun c => if c = i then b else f c) = g) : Two w g (wr.setCell ⟨w.heap.size + 1, 1 + i, none⟩ (.bool b)) :=
  ⟨h.1.setCell (p := ⟨w.heap.size + 1, 1 + i, none⟩) (.inr (Nat.le_succ _)) _, blkfar h.2.1 (by simp only; omega) _, by rw [blkset h.2.2 (1 + i) (.bool b), pc_set', hg]⟩
theorem Two.cell {w wr : World} {f : Nat → Bool} (h : Two w f wr) (i : Nat) (hi : i < 256) : wr.cell? ⟨w.heap.size + 1, 1 + i, none⟩ = some (.bool (f i)) := by
  rw [cell_of_row wr _ _ _ _ _ h.2.2, pc_at' _ _ _ hi]
theorem Two.free {w wr : World} {f : Nat → Bool} (h : Two w f wr) (i : Nat) : wr.frozen? ⟨w.heap.size + 1, i, none⟩ = false := blkfree h.2.2 i
/-- What brackets answer. -/
def brkEnd : Option (Nat × (Int → Bool)) → Value
  | some (z, f) => .tuple #[.agg (pc 0 fun c => f (c : Int)), .int .i64 (z : Int), .bool true]
  | none => .tuple #[.agg (pc 0 nof), .int .i64 0, .bool false]
theorem brk_fail {p : ByteArray} {fr x : Nat} {no : Bool} {R : List (Int × Int)} {G : Option (Nat × List (Int × Int))} {A : Option (Nat × (Int → Bool))} (hno : notAt p (fr + 1) = no) (hG : rgo p (if no then fr + 2 else fr + 1) [] = G) (hA : brk p fr = A)
    (hF : rgo p x R = G) (E : rgo p x R = none) : A = none := by
  rw [← hA]
  unfold brk
  rw [hno, hG, ← hF, E]
theorem brk_shut {p : ByteArray} {fr x : Nat} {no : Bool} {R : List (Int × Int)} {G : Option (Nat × List (Int × Int))} {A : Option (Nat × (Int → Bool))} (hno : notAt p (fr + 1) = no) (hG : rgo p (if no then fr + 2 else fr + 1) [] = G) (hA : brk p fr = A)
    (hF : some (x, R) = G) : A = if x < p.size ∧ R ≠ [] then some (x + 1, classL R no) else none := by
  rw [← hA]
  unfold brk
  rw [hno, hG, ← hF]
theorem brk_ret {w wz : World} {k0 : Int} {f0 : Nat → Bool} {a : Act} (A : Option (Nat × (Int → Bool))) (k : Int) (f : Nat → Bool) (h1 : But No w wz) (h2 : wz.heap[w.heap.size]? = some (.cells (pc k0 f0) 132 (0, 0)))
    (h3 : a.tmps.getD 4 undef = .pointer (some ⟨w.heap.size, 0, none⟩)) (h4 : brkEnd A = .tuple #[.agg (pc k f), a.tmps.getD 5 undef, a.tmps.getD 6 undef]) (h5 : a.defers = []) :
    bodyPost Try.prog Try.f110 (fun e w' => e = .returned (brkEnd A) ∧ But No w w') .ret a (wz.setRow w.heap.size (pc k f)) :=
  bodyPost_ret (resBrk a.tmps _ w.heap.size k f h3 (setRow_heap _ _ _ _ _ _ h2)) h5 ⟨by rw [h4], h1.setRowR (.inr (Nat.le_refl _)) _⟩
def BrkAt (w : World) (p : ByteArray) (G : Option (Nat × List (Int × Int))) (k : Nat) (v7 v10 : Value) (wr : World) : Prop :=
  ∃ (x : Nat) (R : List (Int × Int)), k = p.size - x ∧ x ≤ p.size ∧ R.length ≤ x ∧ v7 = .int .i64 (x : Int) ∧ v10 = .int .i64 (R.length : Int) ∧ Two w (inR R) wr ∧ rgo p x R = G
def BrkOut (w : World) (p : ByteArray) (G : Option (Nat × List (Int × Int))) (v7 v10 : Value) (wr : World) : Prop :=
  ∃ (x : Nat) (R : List (Int × Int)), x ≤ p.size ∧ R.length ≤ x ∧ v7 = .int .i64 (x : Int) ∧ v10 = .int .i64 (R.length : Int) ∧ Two w (inR R) wr ∧ some (x, R) = G
set_option maxHeartbeats 8000000 in
theorem brackets0 (p : ByteArray) (fr : Nat) (hfr : fr < p.size) (hp : p.size ≤ 256) (w : World) (no : Bool) (hno : notAt p (fr + 1) = no) (G : Option (Nat × List (Int × Int))) (hG : rgo p (if no then fr + 2 else fr + 1) [] = G) (A : Option (Nat × (Int → Bool))) (hA : brk p fr = A) :
    Calls Try.prog 110 #[.string p, .int .i64 (fr : Int)] w fun e w' => e = .returned (brkEnd A) ∧ But No w w' := by
  have hp' : p.size ≤ 9223372036854775807 := by omega
  have hv := zeroPc
  have HG := Lib.hid hG
  have HA := Lib.hid hA
  have HNO := Lib.hid hno
  clear hG hA hno
  go_enter Try.func110, Try.ntmps110
  go_upto_region 2 with (fail)
  go_cut [8] (fun v8 wc => v8 = .bool no ∧ But No w wc ∧ wc.heap[w.heap.size]? = some (.cells (pc 0 nof) 132 (0, 0)) ∧ wc.heap.size = w.heap.size + 1)
  case first =>
    have hfin : ∀ n, But No w ((w.alloc (.cells (pc 0 nof) 132)).drewN n) ∧ ((w.alloc (.cells (pc 0 nof) 132)).drewN n).heap[w.heap.size]? = some (.cells (pc 0 nof) 132 (0, 0)) ∧ ((w.alloc (.cells (pc 0 nof) 132)).drewN n).heap.size = w.heap.size + 1 :=
      fun n => ⟨((But.refl _ _).alloc _).drewN n, heap_alloc_new _ _, by simp⟩
    have HFin := Lib.hid hfin
    clear hfin
    by_cases hlt : fr + 1 < p.size
    · have hbt := bt_at p (fr + 1) hlt
      have E := Lib.hid (show (bt p (fr + 1) == 33) = no from by rw [← HNO.out]; simp [notAt, hlt])
      have hlt' : (fr : Int) + 1 < (p.size : Int) := by omega
      have hd : decide ((fr : Int) + 1 < (p.size : Int)) = true := by simp; omega
      go_wp2_with fail
      go_meet
      case rel => exact ⟨by rw [E.out], HFin.out 0⟩
    · have hlt' : ¬ ((fr : Int) + 1 < (p.size : Int)) := by omega
      have hd : decide ((fr : Int) + 1 < (p.size : Int)) = false := by simp; omega
      have E := Lib.hid (show no = false from by rw [← HNO.out]; simp [notAt, hlt])
      go_wp2_with fail
      go_meet
      case rel => exact ⟨by rw [E.out], HFin.out 0⟩
  case rest =>
    obtain ⟨rfl, hb0, hc0, hs0⟩ := hcut
    obtain ⟨x0, hx0⟩ : ∃ x0, x0 = (if no then fr + 2 else fr + 1) := ⟨_, rfl⟩
    have HX0 := Lib.hid hx0
    have hx0le : x0 ≤ p.size := by
      rw [hx0]
      split
      · rename_i hn
        exact notAt_lt (by rw [HNO.out]; exact hn)
      · omega
    clear hx0
    obtain ⟨wo, rfl⟩ : ∃ wo : World, wo = wc := ⟨_, rfl⟩
    go_upto_if 29 with (fail)
    go_cut [7] (fun v7 wc => v7 = .int .i64 (x0 : Int) ∧ wc = wo)
    case first =>
      cases no with
      | false =>
        have E := Lib.hid (show x0 = fr + 1 from HX0.out)
        go_wp2_with fail
        go_meet
        case rel => exact ⟨by rw [E.out]; rfl, rfl⟩
      | true =>
        have E := Lib.hid (show x0 = fr + 2 from HX0.out)
        go_wp2_with fail
        go_meet
        case rel => exact ⟨by rw [E.out]; first | rfl | (congr 1; omega), rfl⟩
    case rest =>
      obtain ⟨rfl, rfl⟩ := hcut
      go_upto_block 0 with (fail)
      go_cut [7, 10] (fun v7 v10 wc => BrkOut w p G v7 v10 wc)
      case first =>
        have hT0 : Two w (inR []) (wc.alloc (.cells (pc 0 nof) 132)) := ⟨hb0.alloc _, blkold hc0 _, by rw [← hs0, inR_nil]; exact heap_alloc_new _ _⟩
        have HT0 := Lib.hid hT0
        clear hT0
        go_wp2_with fail
        go_loopg [7, 10] (p.size - x0) (fun k v7 v10 wr => BrkAt w p G k v7 v10 wr)
        case atStart =>
          exact ⟨x0, [], rfl, hx0le, Nat.zero_le _, rfl, rfl, HT0.out, by rw [HX0.out]; exact HG.out⟩
        case round =>
          obtain ⟨x, R, hkx, hxle, hRl, rfl, rfl, hT, hF⟩ := hrel
          have HF := Lib.hid hF
          have HKX := Lib.hid hkx
          clear hF hkx
          go_upto_region 7 with (fail)
          go_cut [41] (fun v41 wc => v41 = .bool (goes p x) ∧ ∃ n, wc = wr.drewN n)
          case first =>
            by_cases hlt : x < p.size
            · have hbt := bt_at p x hlt
              have E := Lib.hid (show (bt p x != 93) = goes p x from by simp [goes, hlt])
              have hlt' : (x : Int) < (p.size : Int) := by omega
              have hd : decide ((x : Int) < (p.size : Int)) = true := by simp; omega
              go_wp2_with fail
              go_meet
              case rel => exact ⟨by rw [E.out], 0, rfl⟩
            · have hlt' : ¬ ((x : Int) < (p.size : Int)) := by omega
              have hd : decide ((x : Int) < (p.size : Int)) = false := by simp; omega
              have E := Lib.hid (show goes p x = false from by simp [goes, hlt])
              go_wp2_with fail
              go_meet
              case rel => exact ⟨by rw [E.out], 0, rfl⟩
          case rest =>
            obtain ⟨rfl, n, rfl⟩ := hcut
            cases hg : goes p x with
            | false =>
              have E := Lib.hid (rgo_stop R hg)
              clear hg
              go_wp2_with fail
              go_meet
              case rel => exact ⟨x, R, hxle, hRl, rfl, rfl, hT.drewN n, E.out.symm.trans HF.out⟩
            | true =>
              have hx := goes_lt hg
              have hb0 : ∀ w, (Instr.build 132 #[]).run Try.prog w = .ok (.agg (pc 0 nof)) w := fun w => run_build w _ _ _ builtPc0
              have hT2 := hT.drewN n
              obtain ⟨lo, hlo⟩ : ∃ lo : Nat, byteV p x = (lo : Int) := ⟨(byteV p x).toNat, by have := byteV_range p x; omega⟩
              have hlo2 : lo ≤ 255 := by have := byteV_range p x; omega
              cases hbad : escBad p x with
              | true =>
                have E := Lib.hid (brk_fail HNO.out HG.out HA.out HF.out (rgo_bad R hg hbad))
                have hno := Lib.hid (show byteOk p x = false from by unfold byteOk; rw [hg, hbad]; rfl)
                clear hg hbad
                go_wp2_with (first | (go_at_call 120; refine (rbytes_no p x _ hp hxle hno.out).mono ?_; rintro e w1 ⟨rfl, n1, rfl⟩) | refine storePc rfl _ _ rfl _ _ _ rfl rfl 0 nof hT.2.1 ?_)
                refine brk_ret A 0 nof (hT.1.drewN _) hT.2.1 rfl ?_ rfl
                rw [E.out]
                rfl
              | false =>
                have hok := Lib.hid (show byteOk p x = true from by unfold byteOk; rw [hg, hbad]; rfl)
                obtain ⟨y, hy⟩ : ∃ y, byteA p x = y := ⟨_, rfl⟩
                have hylt : x < y := by rw [← hy]; exact byteA_lt p x
                have hyle : y ≤ p.size := by rw [← hy]; exact byteA_le p x hx
                go_upto_region 12 with (go_at_call 120; refine (rbytes_ok p x _ hp hok.out).mono ?_; rw [hlo, hy]; rintro e w1 ⟨rfl, n1, rfl⟩)
                go_cut [70] (fun v70 wc => v70 = .bool (dash p y) ∧ ∃ n, wc = wr.drewN n)
                case first =>
                  by_cases hlt : y + 1 < p.size
                  · have hbt := bt_at p y (by omega)
                    have hbt1 := bt_at p (y + 1) hlt
                    have E := Lib.hid (show ((bt p y == 45) && (bt p (y + 1) != 93)) = dash p y from by simp [dash, hlt])
                    have hlt' : (y : Int) + 1 < (p.size : Int) := by omega
                    have hlt0 : (y : Int) < (p.size : Int) := by omega
                    have hd : decide ((y : Int) + 1 < (p.size : Int)) = true := by simp; omega
                    cases h45 : (bt p y == 45)
                    · have E2 := Lib.hid (show dash p y = false from by rw [← E.out, h45]; rfl)
                      go_wp2_with fail
                      go_meet
                      case rel => exact ⟨by rw [E2.out], _, rfl⟩
                    · have E2 := Lib.hid (show dash p y = (bt p (y + 1) != 93) from by rw [← E.out, h45]; rfl)
                      go_wp2_with fail
                      go_meet
                      case rel => exact ⟨by rw [E2.out], _, rfl⟩
                  · have hlt' : ¬ ((y : Int) + 1 < (p.size : Int)) := by omega
                    have hd : decide ((y : Int) + 1 < (p.size : Int)) = false := by simp; omega
                    have E := Lib.hid (show dash p y = false from by simp [dash, hlt])
                    go_wp2_with fail
                    go_meet
                    case rel => exact ⟨by rw [E.out], _, rfl⟩
                case rest =>
                  obtain ⟨rfl, n2, rfl⟩ := hcut
                  go_upto_if 70 with (fail)
                  go_cut [12, 14] (fun v12 v14 wc => ∃ y2 hi : Nat, v12 = .int .i64 (y2 : Int) ∧ v14 = .int .u8 (hi : Int) ∧ lo ≤ hi ∧ hi ≤ 255 ∧ x < y2 ∧ y2 ≤ p.size ∧ (∃ n, wc = wr.drewN n) ∧ rgo p y2 (R ++ [((lo : Int), (hi : Int))]) = G)
                  case first =>
                    cases hd : dash p y with
                    | false =>
                      have E := Lib.hid (show rgo p y (R ++ [((lo : Int), (lo : Int))]) = G from by rw [← HF.out, rgo_one R hg hbad (by rw [hy]; exact hd), hlo, hy])
                      clear hg hbad hd
                      go_wp2_with fail
                      go_meet
                      case rel => exact ⟨y, lo, rfl, rfl, Nat.le_refl _, hlo2, hylt, hyle, ⟨_, rfl⟩, E.out⟩
                    | true =>
                      have hlt := dash_lt hd
                      have hgo1 := dash_goes hd
                      obtain ⟨hi, hhi⟩ : ∃ hi : Nat, byteV p (y + 1) = (hi : Int) := ⟨(byteV p (y + 1)).toNat, by have := byteV_range p (y + 1); omega⟩
                      have hhi2 : hi ≤ 255 := by have := byteV_range p (y + 1); omega
                      obtain ⟨y2, hy2⟩ : ∃ y2, byteA p (y + 1) = y2 := ⟨_, rfl⟩
                      have hy2lt : y + 1 < y2 := by rw [← hy2]; exact byteA_lt p (y + 1)
                      have hy2le : y2 ≤ p.size := by rw [← hy2]; exact byteA_le p (y + 1) (by omega)
                      cases hbad2 : escBad p (y + 1) with
                      | true =>
                        have E := Lib.hid (brk_fail HNO.out HG.out HA.out HF.out (rgo_bad2 R hg hbad (by rw [hy]; exact hd) (by rw [hy]; exact hbad2)))
                        have hno := Lib.hid (show byteOk p (y + 1) = false from by unfold byteOk; rw [hgo1, hbad2]; rfl)
                        clear hg hbad hd hbad2 hgo1
                        go_wp2_with (first | (go_at_call 120; refine (rbytes_no p (y + 1) _ hp (by omega) hno.out).mono ?_; rintro e w1 ⟨rfl, n3, rfl⟩) | refine storePc rfl _ _ rfl _ _ _ rfl rfl 0 nof hT.2.1 ?_)
                        refine brk_ret A 0 nof (hT.1.drewN _) hT.2.1 rfl ?_ rfl
                        rw [E.out]
                        rfl
                      | false =>
                        have hok2 := Lib.hid (show byteOk p (y + 1) = true from by unfold byteOk; rw [hgo1, hbad2]; rfl)
                        by_cases hlh : hi < lo
                        · have E := Lib.hid (brk_fail HNO.out HG.out HA.out HF.out (rgo_turned R hg hbad (by rw [hy]; exact hd) (by rw [hy]; exact hbad2) (by rw [hy, hhi, hlo]; omega)))
                          have hlh' : (hi : Int) < (lo : Int) := by omega
                          have hd1 : decide ((hi : Int) < (lo : Int)) = true := by simp; omega
                          clear hg hbad hd hbad2 hgo1
                          go_wp2_with (first | (go_at_call 120; refine (rbytes_ok p (y + 1) _ hp hok2.out).mono ?_; rw [hhi, hy2]; rintro e w1 ⟨rfl, n3, rfl⟩) | refine storePc rfl _ _ rfl _ _ _ rfl rfl 0 nof hT.2.1 ?_)
                          refine brk_ret A 0 nof (hT.1.drewN _) hT.2.1 rfl ?_ rfl
                          rw [E.out]
                          rfl
                        · have E := Lib.hid (show rgo p y2 (R ++ [((lo : Int), (hi : Int))]) = G from by rw [← HF.out, rgo_two R hg hbad (by rw [hy]; exact hd) (by rw [hy]; exact hbad2) (by rw [hy, hhi, hlo]; omega), hy, hlo, hhi, hy2])
                          have hlh' : ¬ (hi : Int) < (lo : Int) := by omega
                          have hd1 : decide ((hi : Int) < (lo : Int)) = false := by simp; omega
                          clear hg hbad hd hbad2 hgo1
                          go_wp2_with (go_at_call 120; refine (rbytes_ok p (y + 1) _ hp hok2.out).mono ?_; rw [hhi, hy2]; rintro e w1 ⟨rfl, n3, rfl⟩)
                          go_meet
                          case rel => exact ⟨y2, hi, rfl, rfl, by omega, hhi2, by omega, hy2le, ⟨_, rfl⟩, E.out⟩
                  case rest =>
                    obtain ⟨y2, hi, rfl, rfl, hlh, hhi, hxy2, hy2le, ⟨n3, rfl⟩, hF2⟩ := hcut
                    have HF2 := Lib.hid hF2
                    clear hF2 hg hbad
                    have hT3 := hT.drewN n3
                    obtain ⟨w3, hw3⟩ : ∃ w3, w3 = wr.drewN n3 := ⟨_, rfl⟩
                    rw [← hw3] at hT3 ⊢
                    clear hw3
                    go_upto_block 2 with (fail)
                    go_cut [] (fun wc => Two w (inR (R ++ [((lo : Int), (hi : Int))])) wc)
                    case first =>
                      go_wp2_with fail
                      go_loopg [15] (hi + 1 - lo) (fun k v15 wq => ∃ c : Nat, k = hi + 1 - c ∧ lo ≤ c ∧ c ≤ hi + 1 ∧ v15 = .int .i64 (c : Int) ∧ Two w (fillR R lo c) wq)
                      case atStart => exact ⟨lo, rfl, Nat.le_refl _, by omega, rfl, by rw [fillR_start]; exact hT3⟩
                      case round =>
                        obtain ⟨c, hkc, hc1, hc2, rfl, hTq⟩ := hrel
                        have HKC := Lib.hid hkc
                        clear hkc
                        by_cases hch : c ≤ hi
                        · have hch' : (c : Int) ≤ (hi : Int) := by omega
                          have hd : decide ((c : Int) ≤ (hi : Int)) = true := by simp; omega
                          have h256 : (c : Int) < 256 := by omega
                          have hcell := hTq.cell c (by omega)
                          have hfree := hTq.free (1 + c)
                          have hset := hTq.set c true (fillR_step R lo c hc1)
                          go_wp2_with fail
                          go_roundg (hi + 1 - (c + 1))
                          case measure => have := HKC.out; omega
                          case rel => exact ⟨c + 1, rfl, by omega, by omega, by first | rfl | simp, hset⟩
                        · have hch' : ¬ (c : Int) ≤ (hi : Int) := by omega
                          have hd : decide ((c : Int) ≤ (hi : Int)) = false := by simp; omega
                          have E := Lib.hid (show Two w (inR (R ++ [((lo : Int), (hi : Int))])) wr from by rw [← fillR_end, show hi + 1 = c from by omega]; exact hTq)
                          go_wp2_with fail
                          go_meet
                          case rel => exact E.out
                    case rest =>
                      have hT4 := hcut
                      have hR2 : (R ++ [((lo : Int), (hi : Int))]).length = R.length + 1 := by simp
                      go_wp2_with fail
                      go_roundg (p.size - y2)
                      case measure => have := HKX.out; omega
                      case rel => exact ⟨y2, _, rfl, hy2le, by omega, rfl, by rw [hR2]; first | rfl | simp, hT4, HF2.out⟩
      case rest =>
        obtain ⟨x, R, hxle, hRl, rfl, rfl, hT, hF⟩ := hcut
        have HF := Lib.hid hF
        clear hF
        have hbld : ∀ w, (Instr.build 132 #[]).run Try.prog w = .ok (.agg (pc 0 nof)) w := fun w => run_build w _ _ _ builtPc0
        by_cases hend : x < p.size ∧ R ≠ []
        · have E := Lib.hid (brk_shut HNO.out HG.out HA.out HF.out |>.trans (if_pos hend))
          have hlt' : ¬ ((p.size : Int) ≤ (x : Int)) := by omega
          have hd : decide ((p.size : Int) ≤ (x : Int)) = false := by simp; omega
          have hRpos : 0 < R.length := List.length_pos_iff.2 hend.2
          have hR0 : ((R.length : Int) == 0) = false := by simp; exact hend.2
          clear hend hbld
          go_upto_block 4 with (fail)
          go_cut [] (fun wc => Two w (turnR R no 256) wc)
          case first =>
            go_wp2_with fail
            go_loopg [16] 256 (fun k v16 wq => ∃ c : Nat, k = 256 - c ∧ c ≤ 256 ∧ v16 = .int .i64 (c : Int) ∧ Two w (turnR R no c) wq)
            case atStart => exact ⟨0, rfl, by omega, rfl, by rw [turnR_start]; exact hT⟩
            case round =>
              obtain ⟨c, hkc, hc2, rfl, hTq⟩ := hrel
              have HKC := Lib.hid hkc
              clear hkc
              by_cases hch : c < 256
              · have hch' : (c : Int) < 256 := by omega
                have hd : decide ((c : Int) < 256) = true := by simp; omega
                obtain ⟨bb, hbb⟩ : ∃ bb, inR R c = bb := ⟨_, rfl⟩
                have hcell := hTq.cell c (by omega)
                rw [turnR_at, hbb] at hcell
                have hfree := hTq.free (1 + c)
                have e47 : ((c : Int) != 47) = (c != 47) := by rw [Bool.eq_iff_iff]; simp; omega
                have hset : Two w (turnR R no (c + 1)) (wr.setCell ⟨w.heap.size + 1, 1 + c, none⟩ (.bool ((bb != no) && ((c : Int) != 47)))) := by
                  rw [e47]
                  exact hTq.set c ((bb != no) && (c != 47)) (by rw [← hbb]; exact turnR_step R no c)
                have HS := Lib.hid hset
                clear e47 hset hbb
                cases no <;> cases bb
                all_goals
                  go_wp2_with fail
                  go_roundg (256 - (c + 1))
                  case measure => have := HKC.out; omega
                  case rel => exact ⟨c + 1, rfl, by omega, by first | rfl | simp, HS.out⟩
              · have hch' : ¬ (c : Int) < 256 := by omega
                have hd : decide ((c : Int) < 256) = false := by simp; omega
                have E2 := Lib.hid (show Two w (turnR R no 256) wr from by rw [show 256 = c from by omega]; exact hTq)
                go_wp2_with fail
                go_meet
                case rel => exact E2.out
          case rest =>
            have hT4 := hcut
            go_wp2_with (first | refine loadPc rfl _ rfl _ rfl 0 (turnR R no 256) hT4.2.2 ?_ | refine storePc rfl _ _ rfl _ _ _ rfl rfl 0 nof hT4.2.1 ?_)
            refine brk_ret A 0 (turnR R no 256) hT4.1 hT4.2.1 rfl ?_ rfl
            rw [E.out]
            show brkEnd (some (x + 1, classL R no)) = _
            unfold brkEnd
            simp only []
            rw [turnR_end]
            rfl
        · have E := Lib.hid (brk_shut HNO.out HG.out HA.out HF.out |>.trans (if_neg hend))
          by_cases hlt : x < p.size
          · have hR0 : ((R.length : Int) == 0) = true := by
              simp
              by_cases hR : R = []
              · exact hR
              · exact absurd ⟨hlt, hR⟩ hend
            have hlt' : ¬ ((p.size : Int) ≤ (x : Int)) := by omega
            have hd : decide ((p.size : Int) ≤ (x : Int)) = false := by simp; omega
            clear hend
            go_wp2_with (refine storePc rfl _ _ rfl _ _ _ rfl rfl 0 nof hT.2.1 ?_)
            refine brk_ret A 0 nof hT.1 hT.2.1 rfl ?_ rfl
            rw [E.out]
            rfl
          · have hlt' : ((p.size : Int) ≤ (x : Int)) := by omega
            have hd : decide ((p.size : Int) ≤ (x : Int)) = true := by simp; omega
            clear hend
            go_wp2_with (refine storePc rfl _ _ rfl _ _ _ rfl rfl 0 nof hT.2.1 ?_)
            refine brk_ret A 0 nof hT.1 hT.2.1 rfl ?_ rfl
            rw [E.out]
            rfl
end Go.Proofs.Ytinhlaiogkmkfaa.G
end
section
/- The reference's pieces: what a pattern is read as. -/
namespace Go.Proofs.Ytinhlaiogkmkfaa.G
open Go.RowKit
set_option linter.unusedVariables false
set_option linter.unusedSimpArgs false
/-- The place behind brackets lies behind them. -/
theorem rgo_ge (p : ByteArray) : ∀ n x R z S, p.size - x ≤ n → rgo p x R = some (z, S) → x ≤ z := by
  intro n
  induction n with
  | zero =>
    intro x R z S h e
    have hg : goes p x = false := by
      cases hg : goes p x with
      | false => rfl
      | true => have := goes_lt hg; omega
    rw [rgo_stop R hg] at e
    simp at e
    omega
  | succ n ih =>
    intro x R z S h e
    have h1 := byteA_lt p x
    have h2 := byteA_lt p (byteA p x + 1)
    rw [rgo] at e
    split at e
    · split at e
      · cases e
      · split at e
        · split at e
          · cases e
          · split at e
            · cases e
            · have := ih _ _ _ _ (by omega) e
              omega
        · have := ih _ _ _ _ (by omega) e
          omega
    · simp at e
      omega
theorem brk_gt {p : ByteArray} {fr z : Nat} {f : Int → Bool} (h : brk p fr = some (z, f)) : fr < z := by
  unfold brk at h
  split at h
  · rename_i y R hr
    have := rgo_ge p _ _ _ _ _ (Nat.le_refl _) hr
    split at h
    · simp at h
      have h1 := h.1
      split at this <;> omega
    · cases h
  · cases h
abbrev Pce := Int × (Int → Bool)
/-- A pattern's pieces from place x on: the first wrong place, or the pieces. -/
def pcsGo (p : ByteArray) (x : Nat) (l : List Pce) : Sum Nat (List Pce) :=
  if h : x < p.size then
    if bt p x = 42 then
      if x + 1 < p.size ∧ bt p (x + 1) = 42 then pcsGo p (x + 2) (l ++ [((2, fun _ => false) : Pce)])
      else pcsGo p (x + 1) (l ++ [((1, fun _ => false) : Pce)])
    else if bt p x = 63 then pcsGo p (x + 1) (l ++ [((0, fun c => c != 47) : Pce)])
    else if bt p x = 91 then
      match hb : brk p x with
      | some F => pcsGo p F.1 (l ++ [((0, F.2) : Pce)])
      | none => .inl x
    else if bt p x = 92 then
      if p.size ≤ x + 1 then .inl x else pcsGo p (x + 2) (l ++ [((0, fun c => c == bt p (x + 1)) : Pce)])
    else pcsGo p (x + 1) (l ++ [((0, fun c => c == bt p x) : Pce)])
  else .inr l
termination_by p.size - x
decreasing_by
  all_goals first
    | omega
    | (have := brk_gt (z := F.1) (f := F.2) hb; omega)
end Go.Proofs.Ytinhlaiogkmkfaa.G
end
section
/- The reference's pieces: a slice of one piece, made in place. -/
namespace Go.Proofs.Ytinhlaiogkmkfaa.G
open Go.RowKit
set_option linter.unusedVariables false
set_option linter.unusedSimpArgs false
theorem foldl_sets (L : List Value) : ∀ (k : Nat) (A : Array Value), (List.foldl (fun (cs : Array Value) (x : Value × Nat) => cs.setIfInBounds (0 + x.2) x.1) A (L.zipIdx k)).size = A.size ∧
    ∀ i, (List.foldl (fun (cs : Array Value) (x : Value × Nat) => cs.setIfInBounds (0 + x.2) x.1) A (L.zipIdx k))[i]? = if k ≤ i ∧ i < k + L.length ∧ i < A.size then L[i - k]? else A[i]? := by
  induction L with
  | nil => intro k A; refine ⟨rfl, fun i => ?_⟩; rw [if_neg (by simp; omega)]; rfl
  | cons v L ih =>
    intro k A
    obtain ⟨h1, h2⟩ := ih (k + 1) (A.setIfInBounds (0 + k) v)
    rw [List.zipIdx_cons, List.foldl_cons]
    refine ⟨by rw [h1]; simp, fun i => ?_⟩
    rw [h2 i, Array.size_setIfInBounds]
    by_cases e : i = k
    · subst e
      rw [if_neg (by omega)]
      by_cases hs : i < A.size
      · rw [if_pos ⟨by omega, by simp, hs⟩]
        simp [Array.getElem?_setIfInBounds, hs]
      · rw [if_neg (by omega)]
        simp [Array.getElem?_setIfInBounds, hs]
    · by_cases hin : k ≤ i ∧ i < k + (v :: L).length ∧ i < A.size
      · rw [if_pos hin, if_pos ⟨by omega, by have := hin.2.1; simp at this; omega, hin.2.2⟩]
        rw [show i - k = (i - (k + 1)) + 1 from by omega, List.getElem?_cons_succ]
      · rw [if_neg hin, if_neg (by simp at hin ⊢; omega)]
        rw [Array.getElem?_setIfInBounds, if_neg (by omega)]
theorem fill_all (A c : Array Value) (h : A.size = c.size) : (c.zipIdx.foldl (fun (cs : Array Value) (x : Value × Nat) => cs.setIfInBounds (0 + x.2) x.1) A) = c := by
  rw [← Array.foldl_toList, Array.toList_zipIdx]
  obtain ⟨h1, h2⟩ := foldl_sets c.toList 0 A
  apply Array.ext_getElem?
  intro i
  rw [h2 i]
  by_cases hi : i < c.size
  · rw [if_pos ⟨by omega, by simpa using hi, by omega⟩]
    simp
  · rw [if_neg (by omega), Array.getElem?_eq_none (by omega), Array.getElem?_eq_none (by omega)]
theorem run_onePc (k : Int) (f : Nat → Bool) (w : World) : (Instr.buildSlice 126 1 #[(0, .agg (pc k f))]).run Try.prog w = .ok (.slice (some ⟨w.heap.size, 0, none⟩) 1 1) (w.alloc (.cells (pc k f) 132)) := by
  have hs := sizePc k f
  rw [pc_size] at hs
  have hz := zeroPc
  have hu := Try.underlying126
  cases hq : Try.prog.info? 132 with
  | none => simp [hq] at hs
  | some i =>
    have hsz : i.size = 257 := by simpa [hq] using hs
    have hfill : ∀ A : Array Value, A.size = 257 → Instr.fill (fun i => some (i * 257, 257)) A [(0, .agg (pc k f))] = some (pc k f) := by
      intro A hA
      have h := fill_all A (pc k f) (by rw [hA, pc_size])
      simp only [Instr.fill, Value.cells, pc_size, Nat.zero_mul]
      rw [if_neg (by simp [hA])]
      exact congrArg some h
    simp [Instr.buildSlice, run_underlying hu, sizeOf, typeInfo, hq, hsz, hz, Sem.run_bind]
    rw [hfill _ (by rw [Array.size_map, Array.size_range])]
    simp [newRow, go_sem]
theorem onePc {ops : Array Oper} {rest : List Oper} {o : Oper} {a : Act} {w : World} {Q : Exit → Act → World → Prop} (hgd : o.guard = none) (x : Operand) (ho : o.op = .buildSlice 126 1 #[(0, x)])
    (k : Int) (f : Nat → Bool) (hx : a.eval x = .agg (pc k f))
    (h : wpList Try.prog ops Q rest (a.put o.dst (.slice (some ⟨w.heap.size, 0, none⟩) 1 1)) (w.alloc (.cells (pc k f) 132))) : wpList Try.prog ops Q (o :: rest) a w := by
  refine wpList_plain hgd fun _ hK => ?_
  have hm : (#[(0, x)] : Array (Nat × Operand)).map (fun (i, y) => (i, a.eval y)) = #[(0, .agg (pc k f))] := by simp [hx]
  unfold Oper.wp execOp
  simp only [ho, hm, Sem.run_bind, Sem.run_pure, Result.andThen_ok, run_onePc]
  exact hK _ _ h
end Go.Proofs.Ytinhlaiogkmkfaa.G
end
section
/- The reference's pieces: the walk. -/
namespace Go.Proofs.Ytinhlaiogkmkfaa.G
open Go.RowKit
attribute [local simp, local go_sem] alloc_drewN setCell_drewN
set_option linter.unusedVariables false
set_option linter.unusedSimpArgs false
set_option maxRecDepth 100000
def pcsCells (l : List Pce) : List Value := l.flatMap fun q => pcL q.1 (fun c => q.2 (c : Int))
theorem pcsCells_append (l m : List Pce) : pcsCells (l ++ m) = pcsCells l ++ pcsCells m := by simp [pcsCells]
def IsPcs (w : World) (base : Nat) (v : Value) (l : List Pce) : Prop := w.ownsRow base 132 257 v l.length (pcsCells l)
def PcsAt (w : World) (p : ByteArray) (G : Sum Nat (List Pce)) (k : Nat) (v5 v6 : Value) (wr : World) : Prop :=
  ∃ (x : Nat) (l : List Pce), k = p.size - x ∧ x ≤ p.size ∧ l.length ≤ x ∧ v6 = .int .i64 (x : Int) ∧ But No w wr ∧ IsPcs wr w.heap.size v5 l ∧ pcsGo p x l = G
def PcsPost (w : World) (G : Sum Nat (List Pce)) (e : Ending) (w' : World) : Prop :=
  But No w w' ∧ match G with
  | .inl z => e = .returned (.tuple #[.slice none 0 0, .int .i64 (z : Int), .bool false])
  | .inr l => ∃ v, e = .returned (.tuple #[v, .int .i64 0, .bool true]) ∧ IsPcs w' w.heap.size v l
theorem pcs_stop {p : ByteArray} {x : Nat} (l : List Pce) (h : ¬ x < p.size) : pcsGo p x l = .inr l := by rw [pcsGo, dif_neg h]
theorem pcs_all {p : ByteArray} {x : Nat} (l : List Pce) (h : x < p.size) (h1 : bt p x = 42) (h2 : x + 1 < p.size ∧ bt p (x + 1) = 42) : pcsGo p x l = pcsGo p (x + 2) (l ++ [((2, fun _ => false) : Pce)]) := by rw [pcsGo, dif_pos h, if_pos h1, if_pos h2]
theorem pcs_some {p : ByteArray} {x : Nat} (l : List Pce) (h : x < p.size) (h1 : bt p x = 42) (h2 : ¬ (x + 1 < p.size ∧ bt p (x + 1) = 42)) : pcsGo p x l = pcsGo p (x + 1) (l ++ [((1, fun _ => false) : Pce)]) := by rw [pcsGo, dif_pos h, if_pos h1, if_neg h2]
theorem pcs_quest {p : ByteArray} {x : Nat} (l : List Pce) (h : x < p.size) (h1 : bt p x = 63) : pcsGo p x l = pcsGo p (x + 1) (l ++ [((0, fun c => c != 47) : Pce)]) := by rw [pcsGo, dif_pos h, if_neg (by omega), if_pos h1]
theorem pcs_brk {p : ByteArray} {x : Nat} (l : List Pce) (h : x < p.size) (h1 : bt p x = 91) {z : Nat} {f : Int → Bool} (hb : brk p x = some (z, f)) : pcsGo p x l = pcsGo p z (l ++ [((0, f) : Pce)]) := by
  rw [pcsGo, dif_pos h, if_neg (by omega), if_neg (by omega), if_pos h1]
  split
  · rename_i F hF
    rw [hF] at hb
    injection hb with hb
    subst hb
    rfl
  · rename_i hF
    rw [hF] at hb
    cases hb
theorem pcs_brkno {p : ByteArray} {x : Nat} (l : List Pce) (h : x < p.size) (h1 : bt p x = 91) (hb : brk p x = none) : pcsGo p x l = .inl x := by
  rw [pcsGo, dif_pos h, if_neg (by omega), if_neg (by omega), if_pos h1]
  split
  · rename_i F hF
    rw [hF] at hb
    cases hb
  · rfl
theorem pcs_escno {p : ByteArray} {x : Nat} (l : List Pce) (h : x < p.size) (h1 : bt p x = 92) (h2 : p.size ≤ x + 1) : pcsGo p x l = .inl x := by rw [pcsGo, dif_pos h, if_neg (by omega), if_neg (by omega), if_neg (by omega), if_pos h1, if_pos h2]
theorem pcs_esc {p : ByteArray} {x : Nat} (l : List Pce) (h : x < p.size) (h1 : bt p x = 92) (h2 : ¬ p.size ≤ x + 1) : pcsGo p x l = pcsGo p (x + 2) (l ++ [((0, fun c => c == bt p (x + 1)) : Pce)]) := by rw [pcsGo, dif_pos h, if_neg (by omega), if_neg (by omega), if_neg (by omega), if_pos h1, if_neg h2]
theorem pcs_byte {p : ByteArray} {x : Nat} (l : List Pce) (h : x < p.size) (h1 : bt p x ≠ 42) (h2 : bt p x ≠ 63) (h3 : bt p x ≠ 91) (h4 : bt p x ≠ 92) : pcsGo p x l = pcsGo p (x + 1) (l ++ [((0, fun c => c == bt p x) : Pce)]) := by rw [pcsGo, dif_pos h, if_neg h1, if_neg h2, if_neg h3, if_neg h4]
theorem IsPcs.alloc {w : World} {base : Nat} {v : Value} {l : List Pce} (h : IsPcs w base v l) (o : Obj) : IsPcs (w.alloc o) base v l := World.ownsRow.alloc h o
theorem IsPcs.but {w w' : World} {base : Nat} {v : Value} {l : List Pce} (h : IsPcs w base v l) (hb : But No w w') : IsPcs w' base v l := own_but h hb (fun _ _ _ h => h)
def questF (c i : Nat) : Bool := decide (i < c) && (i != 47)
theorem questF_start : questF 0 = nof := by funext i; simp [questF, nof]
theorem questF_step (c : Nat) : (fun i => if i = c then (c != 47) else questF c i) = questF (c + 1) := by
  funext i
  unfold questF
  by_cases e : i = c
  · subst e
    simp
  · rw [if_neg e]
    have : (i < c + 1) ↔ i < c := by omega
    simp [this]
theorem questF_end (c : Nat) (h : c < 256) : ((c : Int) != 47) = questF 256 c := by
  have e : ((c : Int) != 47) = (c != 47) := by rw [Bool.eq_iff_iff]; simp; omega
  rw [e]
  simp [questF, h]
theorem brackets_no (p : ByteArray) (fr : Nat) (hfr : fr < p.size) (hp : p.size ≤ 256) (w : World) (h : brk p fr = none) :
    Calls Try.prog 110 #[.string p, .int .i64 (fr : Int)] w fun e w' => e = .returned (.tuple #[.agg (pc 0 nof), .int .i64 0, .bool false]) ∧ But No w w' :=
  brackets0 p fr hfr hp w _ rfl _ rfl none h
theorem brackets_ok (p : ByteArray) (fr : Nat) (hfr : fr < p.size) (hp : p.size ≤ 256) (w : World) (z : Nat) (f : Int → Bool) (F : Nat → Bool) (hF : (fun c : Nat => f (c : Int)) = F) (h : brk p fr = some (z, f)) :
    Calls Try.prog 110 #[.string p, .int .i64 (fr : Int)] w fun e w' => e = .returned (.tuple #[.agg (pc 0 F), .int .i64 (z : Int), .bool true]) ∧ But No w w' := by
  subst hF
  exact brackets0 p fr hfr hp w _ rfl _ rfl (some (z, f)) h
theorem brk_le {p : ByteArray} {fr z : Nat} {f : Int → Bool} (h : brk p fr = some (z, f)) : z ≤ p.size := by
  unfold brk at h
  split at h
  · split at h
    · simp at h
      omega
    · cases h
  · cases h
theorem eqF (v : Int) (b : Nat) (h : v = (b : Int)) (c : Nat) : ((c : Int) == v) = decide (c = b) := by
  subst h
  rw [Bool.eq_iff_iff]
  simp
  omega
theorem infoPc3 : ∃ i, Try.prog.info? 132 = some i ∧ i.zero = some (.agg (pc 0 nof)) ∧ i.size = 257 ∧ i.bytes = 264 := by
  have h := infoPc
  cases hq : Try.prog.info? 132 with
  | none => simp [hq] at h
  | some i =>
    simp only [hq, Option.map_some, Option.some.injEq, Prod.mk.injEq] at h
    exact ⟨i, rfl, h.1, h.2.1, h.2.2⟩
theorem pc_cells {w : World} {g : Nat} {k : Int} {f : Nat → Bool} (hg : w.heap[g]? = some (.cells (pc k f) 132 (0, 0))) :
    ∀ (j : Nat) u, (pcL k f)[j]? = some u → w.cell? ((⟨g, 0, none⟩ : Addr).add j) = some u := by
  intro j u h
  have hadd : (⟨g, 0, none⟩ : Addr).add j = ⟨g, j, none⟩ := by unfold Addr.add; split <;> simp_all
  rw [hadd, cell_of_row w g j _ _ _ hg, pc, List.getElem?_toArray, h]
theorem appPc {ops : Array Oper} {rest : List Oper} {o : Oper} {a : Act} {W : World} {Q : Exit → Act → World → Prop} (hgd : o.guard = none) (s y : Operand)
    (ho : o.op = .call { callee := .builtin .append, args := #[s, y], argTypes := #[126, 126] })
    (base : Nat) (v : Value) (l : List Pce) (hs : a.eval s = v) (hI : IsPcs W base v l) (g : Nat) (k : Int) (f : Nat → Bool) (hy : a.eval y = .slice (some ⟨g, 0, none⟩) 1 1)
    (hg : W.heap[g]? = some (.cells (pc k f) 132 (0, 0))) (hl : l.length ≤ 1000) (hb : base ≤ W.heap.size)
    (h : ∀ v' w', w'.ownsRow base 132 257 v' (l.length + 1) (pcsCells l ++ pcL k f) → W.grownBy w' v.ownBlock → wpList Try.prog ops Q rest (a.put o.dst v') w') : wpList Try.prog ops Q (o :: rest) a W := by
  obtain ⟨i, h1, h2, h3, h4⟩ := infoPc3
  refine wpList_append_own W hgd s y 126 ho base 132 i (.agg (pc 0 nof)) 257 264 Try.underlying126 h1 h2 h3 h4 (pc_size _ _) (by decide) v l.length (pcsCells l) hs hI
    ⟨g, 0, none⟩ 1 1 (pcL k f) hy (pcL_length _ _) (pc_cells hg) (fun u hu => pcL_one _ _ u hu) (by unfold maxLen; omega) (by omega) hb (fun v' w' h5 h6 _ => h v' w' h5 h6)
theorem PcsAt.step {w W w1 : World} {p : ByteArray} {G : Sum Nat (List Pce)} {x : Nat} {l : List Pce} {v v' : Value} (x2 : Nat) (q : Pce) (k : Int) (f : Nat → Bool) (hk : q.1 = k) (hf : ∀ c : Nat, c < 256 → q.2 (c : Int) = f c) (hx : x < x2) (hx2 : x2 ≤ p.size) (hll : l.length ≤ x) (hb : But No w W) (hI : IsPcs W w.heap.size v l)
    (ho : w1.ownsRow w.heap.size 132 257 v' (l.length + 1) (pcsCells l ++ pcL k f)) (hg : W.grownBy w1 v.ownBlock) (hF : pcsGo p x2 (l ++ [q]) = G) :
    PcsAt w p G (p.size - x2) v' (.int .i64 (x2 : Int)) w1 := by
  have e : pcL k f = pcL q.1 (fun c => q.2 (c : Int)) := by
    have h := pc_congr (k := k) (f := f) (g := fun c => q.2 (c : Int)) (fun c hc => (hf c hc).symm)
    rw [hk]
    simpa [pc] using h
  refine ⟨x2, l ++ [q], rfl, hx2, by simp; omega, rfl, hb.grow hg hI (Nat.le_refl _), ?_, hF⟩
  unfold IsPcs
  rw [List.length_append, pcsCells_append]
  rw [e] at ho
  simpa [pcsCells] using ho
set_option maxHeartbeats 16000000 in
theorem pieces0 (p : ByteArray) (hp : p.size ≤ 256) (w : World) (G : Sum Nat (List Pce)) (hG : pcsGo p 0 [] = G) :
    Calls Try.prog 96 #[.string p] w (PcsPost w G) := by
  have hp' : p.size ≤ 9223372036854775807 := by omega
  have hv := zeroPc
  have HG := Lib.hid hG
  clear hG
  go_enter Try.func96, Try.ntmps96
  go_wp2_with fail
  go_loopg [5, 6] p.size (fun k v5 v6 wr => PcsAt w p G k v5 v6 wr)
  case atStart => exact ⟨0, [], rfl, Nat.zero_le _, Nat.le_refl _, rfl, But.refl _ _, World.ownsRow_nil _ _ _ _, HG.out⟩
  case round =>
    obtain ⟨x, l, hkx, hxle, hll, rfl, hb, hI, hF⟩ := hrel
    have HF := Lib.hid hF
    have HKX := Lib.hid hkx
    clear hF hkx
    obtain ⟨A0, c0, rfl⟩ := own_slice hI
    have hbz := hb.size
    by_cases hlt : x < p.size
    · have hbt := bt_at p x hlt
      have hlt' : (x : Int) < (p.size : Int) := by omega
      have hd : decide ((x : Int) < (p.size : Int)) = true := by simp; omega
      have hb1 : ∀ w, (Instr.build 132 #[(0, .int .i64 1)]).run Try.prog w = .ok (.agg (pc 1 nof)) w := fun w => run_build w _ _ _ builtPc1
      have hb2 : ∀ w, (Instr.build 132 #[(0, .int .i64 2)]).run Try.prog w = .ok (.agg (pc 2 nof)) w := fun w => run_build w _ _ _ builtPc2
      by_cases c42 : bt p x = 42
      · have e42 : (bt p x == 42) = true := by simp [c42]
        by_cases c1a : x + 1 < p.size
        · have hbt1 := bt_at p (x + 1) c1a
          have hd1 : decide ((x : Int) + 1 < (p.size : Int)) = true := by simp; omega
          have hlt1 : (x : Int) + 1 < (p.size : Int) := by omega
          by_cases c1b : bt p (x + 1) = 42
          · have e1 : (bt p (x + 1) == 42) = true := by simp [c1b]
            have E := Lib.hid (show pcsGo p (x + 2) (l ++ [((2, fun _ => false) : Pce)]) = G from by rw [← HF.out, pcs_all l hlt c42 ⟨c1a, c1b⟩])
            clear c42 c1b HF
            go_wp2_with (first | refine onePc rfl _ rfl 2 nof rfl ?_ | (refine appPc rfl _ _ rfl w.heap.size _ l rfl (hI.alloc _) wr.heap.size 2 nof rfl (heap_alloc_new _ _) (by omega) (by simp; omega) ?_; intro v' w1 hown hgrow))

            go_roundg (p.size - (x + 2))
            case measure => have := HKX.out; omega
            case rel => exact PcsAt.step (x + 2) _ 2 nof rfl (fun _ _ => rfl) (by omega) (by omega) hll (hb.alloc _) (hI.alloc _) hown hgrow E.out
          · have e1 : (bt p (x + 1) == 42) = false := by simp [c1b]
            have E := Lib.hid (show pcsGo p (x + 1) (l ++ [((1, fun _ => false) : Pce)]) = G from by rw [← HF.out, pcs_some l hlt c42 (fun h => c1b h.2)])
            clear c42 c1b HF
            go_wp2_with (first | refine onePc rfl _ rfl 1 nof rfl ?_ | (refine appPc rfl _ _ rfl w.heap.size _ l rfl (hI.alloc _) wr.heap.size 1 nof rfl (heap_alloc_new _ _) (by omega) (by simp; omega) ?_; intro v' w1 hown hgrow))

            go_roundg (p.size - (x + 1))
            case measure => have := HKX.out; omega
            case rel => exact PcsAt.step (x + 1) _ 1 nof rfl (fun _ _ => rfl) (by omega) (by omega) hll (hb.alloc _) (hI.alloc _) hown hgrow E.out
        · have hd1 : decide ((x : Int) + 1 < (p.size : Int)) = false := by simp; omega
          have hlt1 : ¬ ((x : Int) + 1 < (p.size : Int)) := by omega
          have E := Lib.hid (show pcsGo p (x + 1) (l ++ [((1, fun _ => false) : Pce)]) = G from by rw [← HF.out, pcs_some l hlt c42 (fun h => c1a h.1)])
          clear c42 HF
          go_wp2_with (first | refine onePc rfl _ rfl 1 nof rfl ?_ | (refine appPc rfl _ _ rfl w.heap.size _ l rfl (hI.alloc _) wr.heap.size 1 nof rfl (heap_alloc_new _ _) (by omega) (by simp; omega) ?_; intro v' w1 hown hgrow))

          go_roundg (p.size - (x + 1))
          case measure => have := HKX.out; omega
          case rel => exact PcsAt.step (x + 1) _ 1 nof rfl (fun _ _ => rfl) (by omega) (by omega) hll (hb.alloc _) (hI.alloc _) hown hgrow E.out
      · have e42 : (bt p x == 42) = false := by simp [c42]
        by_cases c63 : bt p x = 63
        · have e63 : (bt p x == 63) = true := by simp [c63]
          have E := Lib.hid (show pcsGo p (x + 1) (l ++ [((0, fun c => c != 47) : Pce)]) = G from by rw [← HF.out, pcs_quest l hlt c63])
          clear c42 c63 HF
          obtain ⟨wo, rfl⟩ : ∃ wo : World, wo = wr := ⟨_, rfl⟩
          go_upto_block 3 with (fail)
          go_cut [8] (fun v8 wc => But No wo wc ∧ wc.heap[wo.heap.size]? = some (.cells (pc 0 (questF 256)) 132 (0, 0)))
          case first =>
            go_wp2_with fail
            go_loopg [8] 256 (fun k v8 wq => ∃ c : Nat, k = 256 - c ∧ c ≤ 256 ∧ v8 = .int .i64 (c : Int) ∧ But No wo wq ∧ wq.heap[wo.heap.size]? = some (.cells (pc 0 (questF c)) 132 (0, 0)))
            case atStart => exact ⟨0, rfl, by omega, rfl, (But.refl _ _).alloc _, by rw [questF_start]; exact heap_alloc_new _ _⟩
            case round =>
              obtain ⟨c, hkc, hc2, rfl, hq1, hq2⟩ := hrel
              have HKC := Lib.hid hkc
              clear hkc
              by_cases hch : c < 256
              · have hch' : (c : Int) < 256 := by omega
                have hdc : decide ((c : Int) < 256) = true := by simp; omega
                have hcell : wr.cell? ⟨wo.heap.size, 1 + c, none⟩ = some (.bool (questF c c)) := by rw [cell_of_row wr _ _ _ _ _ hq2, pc_at' _ _ _ hch]
                have hfree : wr.frozen? ⟨wo.heap.size, 1 + c, none⟩ = false := blkfree hq2 (1 + c)
                have e47 : ((c : Int) != 47) = (c != 47) := by rw [Bool.eq_iff_iff]; simp; omega
                have hset : But No wo (wr.setCell ⟨wo.heap.size, 1 + c, none⟩ (.bool ((c : Int) != 47))) ∧ (wr.setCell ⟨wo.heap.size, 1 + c, none⟩ (.bool ((c : Int) != 47))).heap[wo.heap.size]? = some (.cells (pc 0 (questF (c + 1))) 132 (0, 0)) :=
                  ⟨hq1.setCell (p := ⟨wo.heap.size, 1 + c, none⟩) (.inr (Nat.le_refl _)) _, by rw [blkset hq2 (1 + c) _, pc_set', e47, questF_step]⟩
                have HS := Lib.hid hset
                clear e47 hset
                go_wp2_with fail
                go_roundg (256 - (c + 1))
                case measure => have := HKC.out; omega
                case rel => exact ⟨c + 1, rfl, by omega, by first | rfl | simp, HS.out⟩
              · have hch' : ¬ (c : Int) < 256 := by omega
                have hdc : decide ((c : Int) < 256) = false := by simp; omega
                have E2 := Lib.hid (show wr.heap[wo.heap.size]? = some (.cells (pc 0 (questF 256)) 132 (0, 0)) from by rw [show 256 = c from by omega]; exact hq2)
                go_wp2_with fail
                go_meet
                case rel => exact ⟨hq1, E2.out⟩
          case rest =>
            obtain ⟨hq1, hq2⟩ := hcut
            have hq3 := hq1.size
            go_wp2_with (first | refine loadPc rfl _ rfl _ rfl 0 (questF 256) hq2 ?_ | refine onePc rfl _ rfl 0 (questF 256) rfl ?_ | (refine appPc rfl _ _ rfl w.heap.size _ l rfl ((hI.but hq1).alloc _) wc.heap.size 0 (questF 256) rfl (heap_alloc_new _ _) (by omega) (by simp; omega) ?_; intro v' w1 hown hgrow))
            go_roundg (p.size - (x + 1))
            case measure => have := HKX.out; omega
            case rel => exact PcsAt.step (x + 1) _ 0 (questF 256) rfl (fun c h => questF_end c h) (by omega) (by omega) hll ((hb.trans hq1).alloc _) ((hI.but hq1).alloc _) hown hgrow E.out
        · have e63 : (bt p x == 63) = false := by simp [c63]
          by_cases c91 : bt p x = 91
          · have e91 : (bt p x == 91) = true := by simp [c91]
            cases hB : brk p x with
            | none =>
              have E := Lib.hid (show Sum.inl x = G from by rw [← HF.out, pcs_brkno l hlt c91 hB])
              clear c42 c63 c91 HF
              go_wp2_with (first | (go_at_call 110; refine (brackets_no p x hlt hp _ hB).mono ?_; rintro e w1 ⟨rfl, hbw⟩) | refine storePc rfl _ _ rfl _ 0 nof rfl rfl 0 nof (heap_alloc_new _ _) ?_)
              go_ret3
              refine ⟨(hb.trans hbw).alloc _ |>.setRowR (.inr ?_) _, ?_⟩
              · have := hbw.size; omega
              · rw [← E.out]
                rfl
            | some F =>
              obtain ⟨z, f⟩ := F
              have E := Lib.hid (show pcsGo p z (l ++ [((0, f) : Pce)]) = G from by rw [← HF.out, pcs_brk l hlt c91 hB])
              have hz1 := brk_gt hB
              have hz2 := brk_le hB
              obtain ⟨Fn, hFn⟩ : ∃ Fn : Nat → Bool, (fun c : Nat => f (c : Int)) = Fn := ⟨_, rfl⟩
              have HFn := Lib.hid hFn
              have HBr := Lib.hid hB
              clear c42 c63 c91 HF hFn hB
              go_wp2_with (first | (go_at_call 110; refine (brackets_ok p x hlt hp _ z f Fn HFn.out HBr.out).mono ?_; rintro e w1 ⟨rfl, hbw⟩) | refine storePc rfl _ _ rfl _ 0 Fn rfl rfl 0 nof (heap_alloc_new _ _) ?_ | refine loadPc rfl _ rfl _ rfl 0 Fn (setRow_heap _ _ _ _ _ _ (heap_alloc_new _ _)) ?_ | refine onePc rfl _ rfl 0 Fn rfl ?_ | (refine appPc rfl _ _ rfl w.heap.size _ l rfl (hI.but (((hbw.alloc _).setRowR (.inr (by have := hbw.size; exact this)) _).alloc _)) _ 0 Fn rfl (heap_alloc_new _ _) (by omega) (by have := hbw.size; simp; omega) ?_; intro v' w2 hown hgrow))
              go_roundg (p.size - z)
              case measure => have := HKX.out; omega
              case rel => exact PcsAt.step z _ 0 Fn rfl (fun c _ => congrFun HFn.out c) (by omega) (by omega) hll (hb.trans (((hbw.alloc _).setRowR (.inr (by have := hbw.size; exact this)) _).alloc _)) (hI.but (((hbw.alloc _).setRowR (.inr (by have := hbw.size; exact this)) _).alloc _)) hown hgrow E.out
          · have e91 : (bt p x == 91) = false := by simp [c91]
            by_cases c92 : bt p x = 92
            · have e92 : (bt p x == 92) = true := by simp [c92]
              by_cases c1a : p.size ≤ x + 1
              · have hd1 : decide ((p.size : Int) ≤ (x : Int) + 1) = true := by simp; omega
                have hlt1 : (p.size : Int) ≤ (x : Int) + 1 := by omega
                have E := Lib.hid (show Sum.inl x = G from by rw [← HF.out, pcs_escno l hlt c92 c1a])
                clear c42 c63 c91 c92 HF
                go_wp2_with fail
                go_ret3
                exact ⟨hb, by rw [← E.out]; rfl⟩
              · have hd1 : decide ((p.size : Int) ≤ (x : Int) + 1) = false := by simp; omega
                have hlt1 : ¬ (p.size : Int) ≤ (x : Int) + 1 := by omega
                have hlt2 : (x : Int) + 1 < (p.size : Int) := by omega
                have hbt1 := bt_at p (x + 1) (by omega)
                obtain ⟨b, hbb⟩ : ∃ b : Nat, bt p (x + 1) = (b : Int) := ⟨(bt p (x + 1)).toNat, by have := bt_range p (x + 1); omega⟩
                have hb256 : b < 256 := by have := bt_range p (x + 1); omega
                have E := Lib.hid (show pcsGo p (x + 2) (l ++ [((0, fun c => c == bt p (x + 1)) : Pce)]) = G from by rw [← HF.out, pcs_esc l hlt c92 c1a])
                have HBB := Lib.hid hbb
                rw [hbb] at hbt1
                clear c42 c63 c91 c92 HF hbb
                go_wp2_with (first | (go_at_call 111; refine (single0 b hb256 _).mono ?_; rintro e w1 ⟨rfl, hbw⟩) | refine onePc rfl _ rfl 0 (fun c => decide (c = b)) rfl ?_ | (refine appPc rfl _ _ rfl w.heap.size _ l rfl ((hI.but hbw).alloc _) w1.heap.size 0 (fun c => decide (c = b)) rfl (heap_alloc_new _ _) (by omega) (by have := hbw.size; simp; omega) ?_; intro v' w2 hown hgrow))
                go_roundg (p.size - (x + 2))
                case measure => have := HKX.out; omega
                case rel => exact PcsAt.step (x + 2) _ 0 (fun c => decide (c = b)) rfl (fun c _ => eqF _ b HBB.out c) (by omega) (by omega) hll ((hb.trans hbw).alloc _) ((hI.but hbw).alloc _) hown hgrow E.out
            · have e92 : (bt p x == 92) = false := by simp [c92]
              obtain ⟨b, hbb⟩ : ∃ b : Nat, bt p x = (b : Int) := ⟨(bt p x).toNat, by have := bt_range p x; omega⟩
              have hb256 : b < 256 := by have := bt_range p x; omega
              have E := Lib.hid (show pcsGo p (x + 1) (l ++ [((0, fun c => c == bt p x) : Pce)]) = G from by rw [← HF.out, pcs_byte l hlt c42 c63 c91 c92])
              have HBB := Lib.hid hbb
              rw [hbb] at hbt e42 e63 e91 e92
              clear c42 c63 c91 c92 HF hbb
              go_wp2_with (first | (go_at_call 111; refine (single0 b hb256 _).mono ?_; rintro e w1 ⟨rfl, hbw⟩) | refine onePc rfl _ rfl 0 (fun c => decide (c = b)) rfl ?_ | (refine appPc rfl _ _ rfl w.heap.size _ l rfl ((hI.but hbw).alloc _) w1.heap.size 0 (fun c => decide (c = b)) rfl (heap_alloc_new _ _) (by omega) (by have := hbw.size; simp; omega) ?_; intro v' w2 hown hgrow))
              go_roundg (p.size - (x + 1))
              case measure => have := HKX.out; omega
              case rel => exact PcsAt.step (x + 1) _ 0 (fun c => decide (c = b)) rfl (fun c _ => eqF _ b HBB.out c) (by omega) (by omega) hll ((hb.trans hbw).alloc _) ((hI.but hbw).alloc _) hown hgrow E.out
    · have E := Lib.hid (show Sum.inr l = G from by rw [← HF.out, pcs_stop l hlt])
      have hlt' : ¬ (x : Int) < (p.size : Int) := by omega
      have hd : decide ((x : Int) < (p.size : Int)) = false := by simp; omega
      go_wp2_with fail
      go_ret3
      refine ⟨hb, ?_⟩
      rw [← E.out]
      exact ⟨_, rfl, hI⟩
end Go.Proofs.Ytinhlaiogkmkfaa.G
end
section
/- The reference's Check and open. -/
namespace Go.Proofs.Ytinhlaiogkmkfaa.G
open Go.RowKit
attribute [local simp, local go_sem] alloc_drewN setCell_drewN
set_option linter.unusedVariables false
set_option linter.unusedSimpArgs false
set_option maxRecDepth 100000
def rcheckRes (p : ByteArray) : Int × Int := if 256 < p.size then (0, 61) else match pcsGo p 0 [] with
  | .inl z => ((z : Int), 60)
  | .inr _ => (0, 0)
set_option maxHeartbeats 4000000 in
theorem rcheck0 (p : ByteArray) (w : World) (hp : p.size ≤ 9223372036854775807) :
    Calls Try.prog 70 #[.string p] w fun e w' => e = .returned (.tuple #[.int .i64 (rcheckRes p).1, .int .i64 (rcheckRes p).2]) ∧ But No w w' := by
  have hp2 : p.size ≤ 9223372036854775807 := by omega
  by_cases h1 : 256 < p.size
  · have E := Lib.hid (show rcheckRes p = (0, 61) from if_pos h1)
    go_enter Try.func70, Try.ntmps70
    go_wp2_with fail
    go_ret2
    exact ⟨by rw [E.out]; rfl, But.refl _ _⟩
  · have h2 : p.size ≤ 256 := by omega
    cases hG : pcsGo p 0 [] with
    | inl z =>
      have E := Lib.hid (show rcheckRes p = ((z : Int), 60) from by unfold rcheckRes; rw [if_neg h1, hG])
      have H := Lib.hid hG
      clear hG
      go_enter Try.func70, Try.ntmps70
      go_wp2_with fail
      refine (pieces0 p h2 w _ H.out).mono ?_
      rintro e w1 ⟨hb, rfl⟩
      go_wp2_with fail
      go_ret2
      exact ⟨by rw [E.out]; rfl, hb⟩
    | inr l =>
      have E := Lib.hid (show rcheckRes p = (0, 0) from by unfold rcheckRes; rw [if_neg h1, hG])
      have H := Lib.hid hG
      clear hG
      go_enter Try.func70, Try.ntmps70
      go_wp2_with fail
      refine (pieces0 p h2 w _ H.out).mono ?_
      rintro e w1 ⟨hb, v, rfl, hI⟩
      go_wp2_with fail
      go_ret2
      exact ⟨by rw [E.out]; rfl, hb⟩
theorem thru_yes' {wr : World} {n k g : Nat} {many at_ : Nat → Bool} (hb : wr.heap[g]? = some (.cells (rowB (n + 1) (thruTo many k at_)) 4 (0, 0)))
    (h1 : many k = true) (h2 : thruTo many k at_ k = true) :
    (wr.setCell ⟨g, k + 1, none⟩ (.bool true)).heap[g]? = some (.cells (rowB (n + 1) (thruTo many (k + 1) at_)) 4 (0, 0)) := by
  rw [blkset hb (k + 1) (.bool true), rowB_set]
  congr 3
  funext j
  simp [thruTo, h1, h2]
theorem thru_no' {wr : World} {n k g : Nat} {many at_ : Nat → Bool} (hb : wr.heap[g]? = some (.cells (rowB (n + 1) (thruTo many k at_)) 4 (0, 0)))
    (h : many k = false ∨ thruTo many k at_ k = false) :
    wr.heap[g]? = some (.cells (rowB (n + 1) (thruTo many (k + 1) at_)) 4 (0, 0)) := by
  rw [hb]
  congr 3
  funext j
  rcases h with h | h <;> simp [thruTo, h]
set_option maxHeartbeats 1000000 in
theorem open0 (n cap b : Nat) (kd : Nat → Int) (many : Nat → Bool) (g : Nat) (at_ : Nat → Bool) (w : World) (hk : ∀ i, i < n → (kd i != 0) = many i)
    (hm : ∀ i, i < n → w.cell? ⟨b, i * 257, none⟩ = some (.int .i64 (kd i)))
    (hlen : n ≤ 1000) (hg : b ≠ g)
    (hat : w.heap[g]? = some (.cells (rowB (n + 1) at_) 4 (0, 0))) :
    Calls Try.prog 97 #[.slice (some ⟨b, 0, none⟩) n cap, .slice (some ⟨g, 0, none⟩) (n + 1) (n + 1)] w fun e w' => e = .returned (.tuple #[]) ∧ But (One g) w w' ∧ w'.heap[g]? = some (.cells (rowB (n + 1) (thruTo many n at_)) 4 (0, 0)) := by
  have hlen' : n ≤ 9223372036854775807 := by omega
  have HK := Lib.hid hk
  clear hk
  go_enter Try.func97, Try.ntmps97
  go_wp2
  go_loopw [4] (fun i wr => ∃ k, k ≤ n ∧ i = .int .i64 k ∧ But (One g) w wr ∧ wr.heap[g]? = some (.cells (rowB (n + 1) (thruTo many k at_)) 4 (0, 0))) (fun i _ => n - (intOf i).toNat)
  case atStart => exact ⟨0, Nat.zero_le _, rfl, But.refl _ _, hat⟩
  case round =>
    obtain ⟨k, hk, rfl, hb, hrow⟩ := hrel
    by_cases hlt : k < n
    · have h1 := hb.cell_some (hm k hlt) hg
      have h3 := blkcell hrow k (by rw [rowB_size]; omega)
      rw [rowB_get] at h3
      have h4 := blkfree hrow (k + 1)
      have h5 := blkcell hrow (k + 1) (by rw [rowB_size]; omega)
      have hkk := HK.out k hlt
      obtain ⟨d, hd⟩ : ∃ d, kd k = d := ⟨_, rfl⟩
      rw [hd] at h1 hkk
      clear hd
      cases e2 : thruTo many k at_ k
      · rw [e2] at h3
        have g1 := Lib.hid (thru_no' hrow (.inr e2))
        clear e2 hkk
        go_wp2
        go_roundw
        case rel => exact ⟨k + 1, by omega, by go_num, hb, g1.out⟩
        case measure => simp [intOf]; omega
      · rw [e2] at h3
        cases e1 : many k
        · rw [e1] at hkk
          have g1 := Lib.hid (thru_no' hrow (.inl e1))
          clear e1 e2
          go_wp2
          go_roundw
          case rel => exact ⟨k + 1, by omega, by go_num, hb, g1.out⟩
          case measure => simp [intOf]; omega
        · rw [e1] at hkk
          have g1 := Lib.hid (thru_yes' hrow e1 e2)
          clear e1 e2
          go_wp2
          go_roundw
          case rel => exact ⟨k + 1, by omega, by go_num, hb.setCell (.inl (one_self _)) _, g1.out⟩
          case measure => simp [intOf]; omega
    · go_wp2
      go_end0
      exact ⟨rfl, hb, by have : k = n := by omega
                         subst this; exact hrow⟩
end Go.Proofs.Ytinhlaiogkmkfaa.G
end
section
/- The reference's Match: the walk. -/
namespace Go.Proofs.Ytinhlaiogkmkfaa.G
open Go.RowKit
attribute [local simp, local go_sem] alloc_drewN setCell_drewN
set_option linter.unusedVariables false
set_option linter.unusedSimpArgs false
set_option maxRecDepth 100000
/-- A piece as a step. -/
def toStp (q : Pce) : Stp := if q.1 = 0 then ⟨false, q.2⟩ else ⟨true, if q.1 = 2 then fun _ => true else fun c => c != 47⟩
def rL (p : ByteArray) : List Stp := match pcsGo p 0 [] with
  | .inl _ => []
  | .inr l => l.map toStp
def rmatchRes (p s : ByteArray) : Bool × Int := if (rcheckRes p).2 = 0 then (marks (rL p) s s.size (rL p).length, 0) else (false, (rcheckRes p).2)
theorem rmatchRes_of {p s : ByteArray} {e : Int × Int} (h : rcheckRes p = e) (hne : e.2 ≠ 0) : rmatchRes p s = (false, e.2) := by
  unfold rmatchRes
  rw [h, if_neg hne]
theorem many_toStp (l : List Pce) (i : Nat) (h : i < l.length) : (l[i].1 != 0) = manyOf (l.map toStp) i := by
  simp only [manyOf, List.getElem?_map, List.getElem?_eq_getElem h, Option.map_some, toStp]
  by_cases e : l[i].1 = 0 <;> simp [e]
theorem pcsCells_at (l : List Pce) : ∀ i j (hi : i < l.length), j < 257 → (pcsCells l)[i * 257 + j]? = (pcL l[i].1 (fun c => l[i].2 (c : Int)))[j]? := by
  induction l with
  | nil => intro i j hi; simp at hi
  | cons s l ih =>
    intro i j hi hj
    have hl := pcL_length s.1 (fun c => s.2 (c : Int))
    cases i with
    | zero =>
      simp only [pcsCells, List.flatMap_cons, Nat.zero_mul, Nat.zero_add, List.getElem_cons_zero]
      rw [List.getElem?_append_left (by omega)]
    | succ i =>
      have := ih i j (by simpa using hi) hj
      simp only [pcsCells, List.flatMap_cons] at this ⊢
      rw [List.getElem?_append_right (by omega), hl, show (i + 1) * 257 + j - 257 = i * 257 + j from by omega]
      simpa using this
/-- What is known of a piece's place. -/
theorem piece_cells {w : World} {base : Nat} {A : Option Addr} {c : Nat} {l : List Pce} (h : IsPcs w base (.slice A l.length c) l) : ∀ i (hi : i < l.length), ∃ b, A = some ⟨b, 0, none⟩ ∧ base ≤ b ∧ b < w.heap.size ∧
    w.cell? ⟨b, i * 257, none⟩ = some (.int .i64 l[i].1) ∧ ∀ x : Nat, x < 256 → w.cell? ⟨b, i * 257 + 1 + x, none⟩ = some (.bool (l[i].2 (x : Int))) := by
  intro i hi
  rcases h with ⟨hl, ⟨hv, h0⟩ | ⟨g, cap, cur, hv, hg, hh, hc, hm, hcs, ht⟩⟩
  · omega
  · injection hv with hA _ _
    have hcell : ∀ j u, (pcsCells l)[j]? = some u → w.cell? ⟨g, j, none⟩ = some u := by
      intro j u hj
      rw [cell_of_row w g j cur _ _ hh, ← Array.getElem?_toList]
      rw [← ht] at hj
      rw [List.getElem?_take] at hj
      split at hj
      · exact hj
      · simp at hj
    refine ⟨g, hA, hg, lt_of_block hh, ?_, fun x hx => ?_⟩
    · have := pcsCells_at l i 0 hi (by omega)
      rw [Nat.add_zero, pcL_kind] at this
      exact hcell _ _ this
    · have := pcsCells_at l i (x + 1) hi (by omega)
      rw [pcL_at _ _ _ hx] at this
      have h2 := hcell _ _ this
      rwa [show i * 257 + (x + 1) = i * 257 + 1 + x from by omega] at h2
theorem open_any (n cap : Nat) (A : Option Addr) (kd : Nat → Int) (many : Nat → Bool) (g : Nat) (at_ : Nat → Bool) (w : World) (hk : ∀ i, i < n → (kd i != 0) = many i)
    (hA : ∀ i, i < n → ∃ b, A = some ⟨b, 0, none⟩ ∧ b ≠ g ∧ w.cell? ⟨b, i * 257, none⟩ = some (.int .i64 (kd i)))
    (hlen : n ≤ 1000)
    (hat : w.heap[g]? = some (.cells (rowB (n + 1) at_) 4 (0, 0))) :
    Calls Try.prog 97 #[.slice A n cap, .slice (some ⟨g, 0, none⟩) (n + 1) (n + 1)] w fun e w' => e = .returned (.tuple #[]) ∧ But (One g) w w' ∧ w'.heap[g]? = some (.cells (rowB (n + 1) (thruTo many n at_)) 4 (0, 0)) := by
  rcases Nat.eq_zero_or_pos n with h0 | h0
  · subst h0
    go_enter Try.func97, Try.ntmps97
    go_wp2
    go_loopw [4] (fun i wr => i = .int .i64 0 ∧ wr = w) (fun i _ => 0)
    case atStart => exact ⟨rfl, rfl⟩
    case round =>
      obtain ⟨rfl, rfl⟩ := hrel
      go_wp2
      go_end0
      exact ⟨rfl, But.refl _ _, hat⟩
  · obtain ⟨b, rfl, hne, _⟩ := hA 0 h0
    have h1 : ∀ i, i < n → w.cell? ⟨b, i * 257, none⟩ = some (.int .i64 (kd i)) := by
      intro i hi
      obtain ⟨b', hb', _, c1⟩ := hA i hi
      injection hb' with hb'
      injection hb' with hb'
      subst hb'
      exact c1
    exact open0 n cap b kd many g at_ w hk h1 hlen hne hat
/-- The step k sets no mark behind k. -/
theorem nextTo_off (L : List Stp) (S : Nat → Bool) (c : Int) : ∀ k j, k < j → nextTo L S c k j = false := by
  intro k
  induction k with
  | zero => intro j _; rfl
  | succ k ih =>
    intro j hj
    unfold nextTo
    split
    · rename_i q hq
      rw [if_neg (by
        intro h
        have := h.2.2
        split at this <;> omega)]
      exact ih j (by omega)
    · exact ih j (by omega)
theorem nextTo_skip (L : List Stp) (S : Nat → Bool) (c : Int) (k : Nat) (h : S k = false) : nextTo L S c (k + 1) = nextTo L S c k := by
  funext j
  conv => lhs; unfold nextTo
  split
  · rw [if_neg (by rw [h]; simp)]
  · rfl
theorem nextTo_no (L : List Stp) (S : Nat → Bool) (c : Int) (k : Nat) (hk : k < L.length) (h : L[k].fits c = false) : nextTo L S c (k + 1) = nextTo L S c k := by
  funext j
  conv => lhs; unfold nextTo
  rw [List.getElem?_eq_getElem hk]
  simp [h]
theorem nextTo_one (L : List Stp) (S : Nat → Bool) (c : Int) (k : Nat) (hk : k < L.length) (hS : S k = true) (h1 : L[k].many = false) : nextTo L S c (k + 1) = fun j => if j = k + 1 then L[k].fits c else nextTo L S c k j := by
  funext j
  conv => lhs; unfold nextTo
  rw [List.getElem?_eq_getElem hk]
  simp only [hS, h1, true_and, if_false, Bool.false_eq_true]
  by_cases e : j = k + 1
  · subst e
    rw [nextTo_off L S c k (k + 1) (by omega)]
    cases L[k].fits c <;> simp
  · simp [e]
theorem nextTo_many (L : List Stp) (S : Nat → Bool) (c : Int) (k : Nat) (hk : k < L.length) (hS : S k = true) (h1 : L[k].many = true) (h2 : L[k].fits c = true) : nextTo L S c (k + 1) = fun j => if j = k then true else nextTo L S c k j := by
  funext j
  conv => lhs; unfold nextTo
  rw [List.getElem?_eq_getElem hk]
  simp [hS, h1, h2]
end Go.Proofs.Ytinhlaiogkmkfaa.G
end
section
/- The reference's Match: the walk, joined. -/
namespace Go.Proofs.Ytinhlaiogkmkfaa.G
open Go.RowKit
attribute [local simp, local go_sem] alloc_drewN setCell_drewN
set_option linter.unusedVariables false
set_option linter.unusedSimpArgs false
set_option maxRecDepth 100000
theorem pcsGo_len (p : ByteArray) : ∀ n x l m, p.size - x ≤ n → l.length ≤ x → x ≤ p.size → pcsGo p x l = .inr m → m.length ≤ p.size := by
  intro n
  induction n with
  | zero =>
    intro x l m h h1 h2 e
    rw [pcs_stop l (by omega)] at e
    injection e with e
    subst e
    omega
  | succ n ih =>
    intro x l m h h1 h2 e
    by_cases hx : x < p.size
    · by_cases c1 : bt p x = 42
      · by_cases c2 : x + 1 < p.size ∧ bt p (x + 1) = 42
        · rw [pcs_all l hx c1 c2] at e
          exact ih _ _ _ (by omega) (by simp; omega) (by omega) e
        · rw [pcs_some l hx c1 c2] at e
          exact ih _ _ _ (by omega) (by simp; omega) (by omega) e
      · by_cases c3 : bt p x = 63
        · rw [pcs_quest l hx c3] at e
          exact ih _ _ _ (by omega) (by simp; omega) (by omega) e
        · by_cases c4 : bt p x = 91
          · cases hB : brk p x with
            | none => rw [pcs_brkno l hx c4 hB] at e; cases e
            | some F =>
              obtain ⟨z, f⟩ := F
              rw [pcs_brk l hx c4 hB] at e
              have := brk_gt hB
              have := brk_le hB
              exact ih _ _ _ (by omega) (by simp; omega) (by omega) e
          · by_cases c5 : bt p x = 92
            · by_cases c6 : p.size ≤ x + 1
              · rw [pcs_escno l hx c5 c6] at e; cases e
              · rw [pcs_esc l hx c5 c6] at e
                exact ih _ _ _ (by omega) (by simp; omega) (by omega) e
            · rw [pcs_byte l hx c1 c3 c4 c5] at e
              exact ih _ _ _ (by omega) (by simp; omega) (by omega) e
    · rw [pcs_stop l hx] at e
      injection e with e
      subst e
      omega
theorem pcs_len0 {p : ByteArray} {l : List Pce} (h : pcsGo p 0 [] = .inr l) : l.length ≤ p.size := pcsGo_len p _ 0 [] l (Nat.le_refl _) (Nat.le_refl _) (Nat.zero_le _) h
theorem rcheck_at (p : ByteArray) (w : World) (hp : p.size ≤ 9223372036854775807) (a c : Int) (h : rcheckRes p = (a, c)) :
    Calls Try.prog 70 #[.string p] w fun e w' => e = .returned (.tuple #[.int .i64 a, .int .i64 c]) ∧ But No w w' := by
  have := rcheck0 p w hp
  rw [h] at this
  exact this
def ROut (w1 : World) (L : List Stp) (s : ByteArray) (n : Nat) (gk : Nat) (v11 v12 : Value) (wr : World) : Prop :=
  ∃ (k g1 : Nat), gk = s.size - k ∧ k ≤ s.size ∧ v11 = .slice (some ⟨g1, 0, none⟩) (n + 1) (n + 1) ∧ v12 = .int .i64 k ∧ w1.heap.size ≤ g1 ∧ wr.heap[g1]? = some (.cells (rowB (n + 1) (marks L s k)) 4 (0, 0)) ∧ But No w1 wr
theorem rset {wr w1 : World} {n g2 k : Nat} {N N' : Nat → Bool} {b : Bool} (hc2 : wr.heap[g2]? = some (.cells (rowB (n + 1) N) 4 (0, 0))) (hb1 : But No w1 wr) (hg2 : w1.heap.size ≤ g2) {g1 : Nat} {S : Nat → Bool} (hc1 : wr.heap[g1]? = some (.cells (rowB (n + 1) S) 4 (0, 0))) (hne : g1 ≠ g2)
    (hN : N' = fun j => if j = k then b else N j) : (wr.setCell ⟨g2, k, none⟩ (.bool b)).heap[g1]? = some (.cells (rowB (n + 1) S) 4 (0, 0)) ∧ (wr.setCell ⟨g2, k, none⟩ (.bool b)).heap[g2]? = some (.cells (rowB (n + 1) N') 4 (0, 0)) ∧ But No w1 (wr.setCell ⟨g2, k, none⟩ (.bool b)) :=
  ⟨blkfar hc1 (by simpa using hne) _, by rw [blkset hc2 k (.bool b), rowB_set, hN], hb1.setCell (p := ⟨g2, k, none⟩) (.inr hg2) _⟩
set_option maxHeartbeats 16000000 in
theorem rmatch0 (p s : ByteArray) (w : World) (hp : p.size ≤ 9223372036854775807) (hs : s.size ≤ 9223372036854775807) :
    Calls Try.prog 71 #[.string p, .string s] w fun e w' => e = .returned (.tuple #[.bool (rmatchRes p s).1, .int .i64 (rmatchRes p s).2]) ∧ But No w w' := by
  have hs2 : s.size ≤ 9223372036854775807 := by omega
  by_cases h1 : 256 < p.size
  · have E0 := Lib.hid (show rcheckRes p = (0, 61) from if_pos h1)
    have E := Lib.hid (show rmatchRes p s = (false, 61) from rmatchRes_of E0.out (by decide))
    go_enter Try.func71, Try.ntmps71
    go_wp2_with fail
    refine (rcheck_at p w hp _ _ E0.out).mono ?_
    rintro e w0 ⟨rfl, hb0⟩
    go_wp2_with fail
    go_ret2
    exact ⟨by rw [E.out]; rfl, hb0⟩
  · have h2 : p.size ≤ 256 := by omega
    cases hG : pcsGo p 0 [] with
    | inl z =>
      have E0 := Lib.hid (show rcheckRes p = ((z : Int), 60) from by unfold rcheckRes; rw [if_neg h1, hG])
      have E := Lib.hid (show rmatchRes p s = (false, 60) from rmatchRes_of E0.out (by simp))
      clear hG
      go_enter Try.func71, Try.ntmps71
      go_wp2_with fail
      refine (rcheck_at p w hp _ _ E0.out).mono ?_
      rintro e w0 ⟨rfl, hb0⟩
      go_wp2_with fail
      go_ret2
      exact ⟨by rw [E.out]; rfl, hb0⟩
    | inr l =>
      have E0 := Lib.hid (show rcheckRes p = (0, 0) from by unfold rcheckRes; rw [if_neg h1, hG])
      have E := Lib.hid (show rmatchRes p s = (marks (l.map toStp) s s.size l.length, 0) from by unfold rmatchRes rL; rw [E0.out, if_pos rfl, hG]; simp)
      have H := Lib.hid hG
      clear hG
      go_enter Try.func71, Try.ntmps71
      go_wp2_with fail
      refine (rcheck_at p w hp _ _ E0.out).mono ?_
      rintro e w0 ⟨rfl, hb0⟩
      go_wp2_with fail
      refine (pieces0 p h2 _ _ H.out).mono ?_
      rintro e w1 ⟨hb1, v, rfl, hI⟩
      have hlen : l.length ≤ 257 := Nat.le_trans (pcs_len0 H.out) (by omega)
      obtain ⟨A0, c0, rfl⟩ := own_slice hI
      have hcase : (A0 = none ∧ l.length = 0) ∨ ∃ b, A0 = some ⟨b, 0, none⟩ := by
        rcases hI.2 with ⟨hv, h0⟩ | ⟨b, cap, cur, hv, _⟩
        · injection hv with hv _ _
          exact .inl ⟨hv, h0⟩
        · injection hv with hv _ _
          exact .inr ⟨b, hv⟩
      have hst := piece_cells hI
      have ht : ∀ (w2 : World) (g : Nat) (f : Nat → Bool), But No w1 w2 → w1.heap.size ≤ g → w2.heap[g]? = some (.cells (rowB (l.length + 1) f) 4 (0, 0)) →
          Calls Try.prog 97 #[.slice A0 l.length c0, .slice (some ⟨g, 0, none⟩) (l.length + 1) (l.length + 1)] w2 fun e w' => e = .returned (.tuple #[]) ∧ But (One g) w2 w' ∧ w'.heap[g]? = some (.cells (rowB (l.length + 1) (thruTo (manyOf (l.map toStp)) l.length f)) 4 (0, 0)) := by
        intro w2 g f hb2 hg hc
        refine open_any l.length c0 A0 (fun i => if h : i < l.length then l[i].1 else 0) (manyOf (l.map toStp)) g f w2 ?_ ?_ (by omega) hc
        · intro i hi
          simp only [dif_pos hi]
          exact many_toStp l i hi
        · intro i hi
          obtain ⟨b, q1, q2, q3, q4, q5⟩ := hst i hi
          exact ⟨b, q1, by omega, by simp only [dif_pos hi]; exact hb2.cell_some q4 (fun h => h)⟩
      have HT := Lib.hid ht
      clear ht
      have hmk := run_makeB l.length (by omega)
      have hb01 := hb0.trans hb1
      clear hb0 hb1
      rcases hcase with ⟨rfl, h0⟩ | ⟨b, rfl⟩
      · have H0 := Lib.hid h0
        clear h0 hst hI
        have hr0 : (rowB (l.length + 1) none_)[0]? = some (Value.bool false) := by rw [Array.getElem?_eq_getElem (by rw [rowB_size]; omega), rowB_get]; rfl
        go_wp2_with fail
        clear hr0
        have hs1 := heap_alloc_new w1 (.cells ((rowB (l.length + 1) none_).setIfInBounds 0 (.bool true)) 4 (0, 0))
        rw [rowB_set] at hs1
        rw [rowB_set]
        refine (HT.out _ w1.heap.size _ ((But.refl No w1).alloc _) (Nat.le_refl _) hs1).mono ?_
        rintro e w2 ⟨rfl, hb2, hc1'⟩
        have hb2' : But No w1 w2 := ((But.refl No w1).alloc _).trans_ hb2 (fun b hb e => by unfold One at e; omega)
        have hstart : (fun j => if j = 0 then true else none_ j) = (fun j => j == 0) := by
          funext j
          unfold none_
          cases j <;> simp
        rw [hstart] at hc1'
        clear hb2 hs1 hstart
        go_wp2_with fail
        go_loopg [11, 12] s.size (fun k v11 v12 wr => ROut w1 (l.map toStp) s l.length k v11 v12 wr)
        case atStart =>
          refine ⟨0, w1.heap.size, rfl, Nat.zero_le _, rfl, rfl, Nat.le_refl _, ?_, hb2'⟩
          rw [hc1']
          simp only [marks, start, List.length_map]
        case round =>
          clear hc1' hb2'
          obtain ⟨k, g1, hgk, hk, rfl, rfl, hg1, hc1, hb1⟩ := hrel
          have HGK := Lib.hid hgk
          clear hgk
          obtain ⟨wx, rfl⟩ : ∃ wx : World, wx = wr := ⟨_, rfl⟩
          by_cases hks : k < s.size
          · have hbt := bt_at s k hks
            obtain ⟨cb, hcb⟩ : ∃ cb : Nat, bt s k = (cb : Int) := ⟨(bt s k).toNat, by have := bt_range s k; omega⟩
            have hcb2 : cb < 256 := by have := bt_range s k; omega
            have HCB := Lib.hid hcb
            rw [hcb] at hbt
            clear hcb
            have hgz := lt_of_block hc1
            have hc1c := blkold hc1 (.cells (rowB (l.length + 1) none_) 4 (0, 0))
            have hc2c := heap_alloc_new wx (.cells (rowB (l.length + 1) none_) 4 (0, 0))
            have hb1c := hb1.alloc (.cells (rowB (l.length + 1) none_) 4 (0, 0))
            have hg2 : w1.heap.size ≤ wx.heap.size := hb1.size
            go_wp2_with fail
            generalize hS : marks (l.map toStp) s k = S at *
            have HS := Lib.hid hS
            clear hS
            go_loopg [14] l.length (fun kk v14 wr => InnerAt w1 (l.map toStp) S cb l.length g1 wx.heap.size kk v14 wr)
            case atStart => exact ⟨0, rfl, Nat.zero_le _, rfl, hc1c, hc2c, hb1c⟩
            case round =>
              clear hc1c hc2c hb1c hc1 hb1
              obtain ⟨j, hgj, hj, rfl, hc1, hc2, hb1⟩ := hrel
              have HGJ := Lib.hid hgj
              clear hgj
              by_cases hjl : j < l.length
              · exact absurd hjl (by rw [H0.out]; exact Nat.not_lt_zero _)
              · obtain rfl : j = l.length := by omega
                go_wp2_with fail
                refine (HT.out wr wx.heap.size _ hb1 hg2 hc2).mono ?_
                rintro e w3 ⟨rfl, hb3, hc3⟩
                have hb3' : But No w1 w3 := hb1.trans_ hb3 (fun b hb e => by unfold One at e; omega)
                clear hc1 hc2 hb1 hb3
                go_wp2_with fail
                go_roundg (s.size - (k + 1))
                case measure => rw [HGK.out]; omega
                case rel =>
                  refine ⟨k + 1, wx.heap.size, rfl, by omega, rfl, by go_num, hg2, ?_, hb3'⟩
                  rw [hc3]
                  simp only [marks, stepOn, List.length_map, HS.out, HCB.out]
          · obtain rfl : k = s.size := by omega
            have hcn := blkcell hc1 l.length (by rw [rowB_size]; omega)
            rw [rowB_get] at hcn
            go_wp2_with fail
            go_ret2
            refine ⟨?_, hb01.trans hb1⟩
            rw [E.out]
            rfl
      · have hst0 : ∀ w2, But No w1 w2 → ∀ i (hi : i < l.length), b < w1.heap.size ∧ w2.cell? ⟨b, i * 257, none⟩ = some (.int .i64 l[i].1) ∧ ∀ x : Nat, x < 256 → w2.cell? ⟨b, i * 257 + 1 + x, none⟩ = some (.bool (l[i].2 (x : Int))) := by
          intro w2 hb2 i hi
          obtain ⟨b', q1, q2, q3, q4, q5⟩ := hst i hi
          injection q1 with q1
          injection q1 with q1
          subst q1
          exact ⟨q3, hb2.cell_some q4 (fun h => h), fun x hx => hb2.cell_some (q5 x hx) (fun h => h)⟩
        have HST := Lib.hid hst0
        clear hst hst0 hI
        have hr0 : (rowB (l.length + 1) none_)[0]? = some (Value.bool false) := by rw [Array.getElem?_eq_getElem (by rw [rowB_size]; omega), rowB_get]; rfl
        go_wp2_with fail
        clear hr0
        have hs1 := heap_alloc_new w1 (.cells ((rowB (l.length + 1) none_).setIfInBounds 0 (.bool true)) 4 (0, 0))
        rw [rowB_set] at hs1
        rw [rowB_set]
        refine (HT.out _ w1.heap.size _ ((But.refl No w1).alloc _) (Nat.le_refl _) hs1).mono ?_
        rintro e w2 ⟨rfl, hb2, hc1'⟩
        have hb2' : But No w1 w2 := ((But.refl No w1).alloc _).trans_ hb2 (fun b hb e => by unfold One at e; omega)
        have hstart : (fun j => if j = 0 then true else none_ j) = (fun j => j == 0) := by
          funext j
          unfold none_
          cases j <;> simp
        rw [hstart] at hc1'
        clear hb2 hs1 hstart
        go_wp2_with fail
        go_loopg [11, 12] s.size (fun k v11 v12 wr => ROut w1 (l.map toStp) s l.length k v11 v12 wr)
        case atStart =>
          refine ⟨0, w1.heap.size, rfl, Nat.zero_le _, rfl, rfl, Nat.le_refl _, ?_, hb2'⟩
          rw [hc1']
          simp only [marks, start, List.length_map]
        case round =>
          clear hc1' hb2'
          obtain ⟨k, g1, hgk, hk, rfl, rfl, hg1, hc1, hb1⟩ := hrel
          have HGK := Lib.hid hgk
          clear hgk
          obtain ⟨wx, rfl⟩ : ∃ wx : World, wx = wr := ⟨_, rfl⟩
          by_cases hks : k < s.size
          · have hbt := bt_at s k hks
            obtain ⟨cb, hcb⟩ : ∃ cb : Nat, bt s k = (cb : Int) := ⟨(bt s k).toNat, by have := bt_range s k; omega⟩
            have hcb2 : cb < 256 := by have := bt_range s k; omega
            have HCB := Lib.hid hcb
            rw [hcb] at hbt
            clear hcb
            have hgz := lt_of_block hc1
            have hc1c := blkold hc1 (.cells (rowB (l.length + 1) none_) 4 (0, 0))
            have hc2c := heap_alloc_new wx (.cells (rowB (l.length + 1) none_) 4 (0, 0))
            have hb1c := hb1.alloc (.cells (rowB (l.length + 1) none_) 4 (0, 0))
            have hg2 : w1.heap.size ≤ wx.heap.size := hb1.size
            go_wp2_with fail
            generalize hS : marks (l.map toStp) s k = S at *
            have HS := Lib.hid hS
            clear hS
            go_loopg [14] l.length (fun kk v14 wr => InnerAt w1 (l.map toStp) S cb l.length g1 wx.heap.size kk v14 wr)
            case atStart => exact ⟨0, rfl, Nat.zero_le _, rfl, hc1c, hc2c, hb1c⟩
            case round =>
              clear hc1c hc2c hb1c hc1 hb1
              obtain ⟨j, hgj, hj, rfl, hc1, hc2, hb1⟩ := hrel
              have HGJ := Lib.hid hgj
              clear hgj
              by_cases hjl : j < l.length
              · have hS0 := blkcell hc1 j (by rw [rowB_size]; omega)
                rw [rowB_get] at hS0
                have hlm : j < (l.map toStp).length := by simpa using hjl
                have hce := (HST.out wr hb1 j hjl).2.1
                have hcf := (HST.out wr hb1 j hjl).2.2 cb hcb2
                have hgeq : (l.map toStp)[j] = toStp l[j] := List.getElem_map ..
                obtain ⟨d, hd⟩ : ∃ d, l[j].1 = d := ⟨_, rfl⟩
                obtain ⟨fb, hfb⟩ : ∃ fb, l[j].2 (cb : Int) = fb := ⟨_, rfl⟩
                rw [hd] at hce
                rw [hfb] at hcf
                cases hSj : S j with
                | false =>
                  rw [hSj] at hS0
                  have E2 := Lib.hid (nextTo_skip (l.map toStp) S cb j hSj)
                  clear hce hcf hgeq hd hfb hSj
                  go_wp2_with fail
                  go_roundg (l.length - (j + 1))
                  case measure => rw [HGJ.out]; omega
                  case rel => exact ⟨j + 1, rfl, by omega, by go_num, hc1, by rw [E2.out]; exact hc2, hb1⟩
                | true =>
                  rw [hSj] at hS0
                  by_cases hd0 : d = 0
                  · subst hd0
                    have hmany : (l.map toStp)[j].many = false := by rw [hgeq]; simp [toStp, hd]
                    have hfit : (l.map toStp)[j].fits cb = fb := by rw [hgeq]; simp [toStp, hd, hfb]
                    have hN := nextTo_one (l.map toStp) S cb j hlm hSj hmany
                    rw [hfit] at hN
                    have h3 := blkcell hc2 (j + 1) (by rw [rowB_size]; omega)
                    rw [rowB_get, nextTo_off _ _ _ _ _ (Nat.lt_succ_self j)] at h3
                    have h4 := blkfree hc2 (j + 1)
                    have hset := Lib.hid (rset hc2 hb1 hg2 hc1 (by omega : g1 ≠ wx.heap.size) hN)
                    clear hgeq hd hfb hSj hmany hfit hN
                    go_wp2_with fail
                    have q1 : IntKind.i64.wrap ((j : Int) + 1) = (j : Int) + 1 := IntWalk.i64_in _ (by omega)
                    have q2 : (0 : Int) ≤ (j : Int) + 1 := by omega
                    have q3 : ((j : Int) + 1).toNat = j + 1 := by omega
                    have q4 : (j : Int) < (l.length : Int) := by omega
                    have q5 : (cb : Int) < 256 := by omega
                    go_still_tail 20, (by kernel_rfl)
                    change wpList _ _ _ _ _ wr.drew
                    go_wp2_with fail
                    go_roundg (l.length - (j + 1))
                    case measure => rw [HGJ.out]; omega
                    case rel => exact ⟨j + 1, rfl, by omega, by go_num, hset.out.1, hset.out.2.1, hset.out.2.2.drew⟩
                  · have hmany : (l.map toStp)[j].many = true := by rw [hgeq]; simp [toStp, hd, hd0]
                    have e0 : (d == 0) = false := by simp [hd0]
                    have h4 := blkfree hc2 j
                    have h5 := blkcell hc2 j (by rw [rowB_size]; omega)
                    by_cases hd2 : d = 2
                    · have e2 : (d == 2) = true := by simp [hd2]
                      have hfit : (l.map toStp)[j].fits cb = true := by rw [hgeq]; simp [toStp, hd, hd2]
                      have hset := Lib.hid (rset hc2 hb1 hg2 hc1 (by omega : g1 ≠ wx.heap.size) (nextTo_many (l.map toStp) S cb j hlm hSj hmany hfit))
                      clear hgeq hd hfb hSj hmany hfit hd0 hd2
                      go_wp2_with fail
                      go_roundg (l.length - (j + 1))
                      case measure => rw [HGJ.out]; omega
                      case rel => exact ⟨j + 1, rfl, by omega, by go_num, hset.out⟩
                    · have e2 : (d == 2) = false := by simp [hd2]
                      by_cases hsl : cb = 47
                      · have e3 : ((cb : Int) != 47) = false := by subst hsl; rfl
                        have hfit : (l.map toStp)[j].fits cb = false := by rw [hgeq]; simp [toStp, hd, hd0, hd2, hsl]
                        have E2 := Lib.hid (nextTo_no (l.map toStp) S cb j hlm hfit)
                        clear hgeq hd hfb hSj hmany hfit hd0 hd2 hsl
                        go_wp2_with fail
                        go_roundg (l.length - (j + 1))
                        case measure => rw [HGJ.out]; omega
                        case rel => exact ⟨j + 1, rfl, by omega, by go_num, hc1, by rw [E2.out]; exact hc2, hb1⟩
                      · have e3 : ((cb : Int) != 47) = true := by simp; omega
                        have hfit : (l.map toStp)[j].fits cb = true := by rw [hgeq]; simp [toStp, hd, hd0, hd2]; omega
                        have hset := Lib.hid (rset hc2 hb1 hg2 hc1 (by omega : g1 ≠ wx.heap.size) (nextTo_many (l.map toStp) S cb j hlm hSj hmany hfit))
                        clear hgeq hd hfb hSj hmany hfit hd0 hd2 hsl
                        go_wp2_with fail
                        go_roundg (l.length - (j + 1))
                        case measure => rw [HGJ.out]; omega
                        case rel => exact ⟨j + 1, rfl, by omega, by go_num, hset.out⟩
              · obtain rfl : j = l.length := by omega
                go_wp2_with fail
                refine (HT.out wr wx.heap.size _ hb1 hg2 hc2).mono ?_
                rintro e w3 ⟨rfl, hb3, hc3⟩
                have hb3' : But No w1 w3 := hb1.trans_ hb3 (fun b hb e => by unfold One at e; omega)
                clear hc1 hc2 hb1 hb3
                go_wp2_with fail
                go_roundg (s.size - (k + 1))
                case measure => rw [HGK.out]; omega
                case rel =>
                  refine ⟨k + 1, wx.heap.size, rfl, by omega, rfl, by go_num, hg2, ?_, hb3'⟩
                  rw [hc3]
                  simp only [marks, stepOn, List.length_map, HS.out, HCB.out]
          · obtain rfl : k = s.size := by omega
            have hcn := blkcell hc1 l.length (by rw [rowB_size]; omega)
            rw [rowB_get] at hcn
            go_wp2_with fail
            go_ret2
            refine ⟨?_, hb01.trans hb1⟩
            rw [E.out]
            rfl
end Go.Proofs.Ytinhlaiogkmkfaa.G
end
section
/- The document's patterns and the program's are read alike: plain. -/
namespace Go.Proofs.Ytinhlaiogkmkfaa.G
open Go.RowKit
set_option linter.unusedVariables false
set_option linter.unusedSimpArgs false
theorem byteB_ok {p : ByteArray} {x : Nat} (y : Int) (h : escBad p x = false) : byteB p x y = y := by
  unfold byteB
  unfold escBad at h
  by_cases h1 : bt p x = 92
  · rw [if_pos h1, if_neg (by simp [h1] at h; omega)]
  · rw [if_neg h1]
theorem escBad_parts {p : ByteArray} {x : Nat} (h : escBad p x = true) : bt p x = 92 ∧ p.size ≤ x + 1 := by
  simpa [escBad] using h
theorem byteB_bad {p : ByteArray} {x : Nat} (y : Int) (h : escBad p x = true) : byteB p x y = wrongAt y x := by
  obtain ⟨h1, h2⟩ := escBad_parts h
  unfold byteB
  rw [if_pos h1, if_pos h2]
theorem byteA_bad {p : ByteArray} {x : Nat} (h : escBad p x = true) : byteA p x = x + 1 := by
  obtain ⟨h1, h2⟩ := escBad_parts h
  unfold byteA
  rw [if_pos h1, if_pos h2]
theorem rgo_class (p : ByteArray) (fr : Nat) : ∀ n x R z S, p.size - x ≤ n → rgo p x R = some (z, S) → classGo p fr x (-1) R = (z, -1, S) := by
  intro n
  induction n with
  | zero =>
    intro x R z S h e
    have hg : goes p x = false := by
      cases hg : goes p x with
      | false => rfl
      | true => have := goes_lt hg; omega
    rw [rgo_stop R hg] at e
    simp only [Option.some.injEq, Prod.mk.injEq] at e
    rw [classGo_stop _ _ _ _ _ hg, e.1, e.2]
  | succ n ih =>
    intro x R z S h e
    cases hg : goes p x with
    | false =>
      rw [rgo_stop R hg] at e
      simp only [Option.some.injEq, Prod.mk.injEq] at e
      rw [classGo_stop _ _ _ _ _ hg, e.1, e.2]
    | true =>
      have hx := goes_lt hg
      rw [classGo_go _ _ _ _ _ hg]
      cases h1 : escBad p x with
      | true => rw [rgo_bad R hg h1] at e; cases e
      | false =>
        have b1 := byteB_ok (-1) h1
        have l1 := byteA_lt p x
        have l2 := byteA_lt p (byteA p x + 1)
        cases h2 : dash p (byteA p x) with
        | false =>
          rw [rgo_one R hg h1 h2] at e
          have := ih _ _ _ _ (by omega) e
          unfold stA stB stH
          rw [h2]
          simp only [Bool.false_eq_true, if_false, Int.lt_irrefl, b1]
          exact this
        | true =>
          cases h3 : escBad p (byteA p x + 1) with
          | true => rw [rgo_bad2 R hg h1 h2 h3] at e; cases e
          | false =>
            by_cases h4 : byteV p (byteA p x + 1) < byteV p x
            · rw [rgo_turned R hg h1 h2 h3 h4] at e; cases e
            · rw [rgo_two R hg h1 h2 h3 h4] at e
              have := ih _ _ _ _ (by omega) e
              unfold stA stB stH
              rw [h2]
              simp only [if_true, b1, byteB_ok (-1) h3, if_neg h4]
              exact this
def Inv (fr : Nat) (y : Int) : Prop := y = -1 ∨ (fr : Int) ≤ y
theorem Inv.at_ {fr : Nat} {y : Int} (h : Inv fr y) : wrongAt y fr = fr := by
  unfold wrongAt
  rcases h with h | h
  · rw [if_pos (by omega)]
  · rw [if_neg (by omega)]
    split
    · rfl
    · omega
theorem Inv.step {fr : Nat} {y : Int} (h : Inv fr y) (z : Nat) (hz : fr ≤ z) : Inv fr (wrongAt y z) := by
  unfold wrongAt Inv
  rcases h with h | h
  · rw [if_pos (by omega)]; omega
  · rw [if_neg (by omega)]
    split <;> omega
theorem wrongAt_low {y : Int} {z : Nat} (h0 : 0 ≤ y) (h : y ≤ z) : wrongAt y z = y := by
  unfold wrongAt
  rw [if_neg (by omega), if_neg (by omega)]
theorem byteB_low {p : ByteArray} {x : Nat} {y : Int} (h0 : 0 ≤ y) (h : y ≤ x) : byteB p x y = y := by
  cases h1 : escBad p x with
  | false => exact byteB_ok y h1
  | true => rw [byteB_bad y h1, wrongAt_low h0 h]
theorem class_low (p : ByteArray) (fr : Nat) (y : Int) (h0 : 0 ≤ y) (hy : y ≤ fr) : ∀ n x R, p.size - x ≤ n → fr ≤ x → (classGo p fr x y R).2.1 = y := by
  intro n
  induction n with
  | zero =>
    intro x R h hx
    have hg : goes p x = false := by
      cases hg : goes p x with
      | false => rfl
      | true => have := goes_lt hg; omega
    rw [classGo_stop _ _ _ _ _ hg]
  | succ n ih =>
    intro x R h hx
    cases hg : goes p x with
    | false => rw [classGo_stop _ _ _ _ _ hg]
    | true =>
      have hxl := goes_lt hg
      have l0 := stA_lt p x
      rw [classGo_go _ _ _ _ _ hg]
      have hb : stB p x y = y := by
        unfold stB
        have l1 := byteA_lt p x
        rw [byteB_low h0 (by omega : y ≤ (x : Int))]
        split
        · exact byteB_low h0 (by omega)
        · rfl
      rw [hb, wrongAt_low h0 hy]
      simp only [ite_self]
      exact ih _ _ (by omega) (by omega)
theorem stop_end (p : ByteArray) (fr x : Nat) (y : Int) (R : List (Int × Int)) (h : p.size ≤ x) (hi : Inv fr y) : classBad p fr (classGo p fr x y R) = fr := by
  have hg : goes p x = false := by
    cases hg : goes p x with
    | false => rfl
    | true => have := goes_lt hg; omega
  rw [classGo_stop _ _ _ _ _ hg]
  unfold classBad
  rw [if_pos (.inl h)]
  exact hi.at_
theorem class_bad (p : ByteArray) (fr : Nat) : ∀ n x R y, p.size - x ≤ n → fr < x → Inv fr y → rgo p x R = none → classBad p fr (classGo p fr x y R) = fr := by
  intro n
  induction n with
  | zero =>
    intro x R y h hx hi e
    have hg : goes p x = false := by
      cases hg : goes p x with
      | false => rfl
      | true => have := goes_lt hg; omega
    rw [rgo_stop R hg] at e
    cases e
  | succ n ih =>
    intro x R y h hx hi e
    cases hg : goes p x with
    | false => rw [rgo_stop R hg] at e; cases e
    | true =>
      have hxl := goes_lt hg
      have l1 := byteA_lt p x
      have l2 := byteA_lt p (byteA p x + 1)
      rw [classGo_go _ _ _ _ _ hg]
      cases h1 : escBad p x with
      | true =>
        have hs := (escBad_parts h1).2
        have ha := byteA_bad h1
        have hd : dash p (byteA p x) = false := by
          unfold dash
          rw [ha]
          simp
          omega
        unfold stA stB stH
        rw [hd]
        simp only [Bool.false_eq_true, if_false, Int.lt_irrefl, byteB_bad y h1]
        exact stop_end _ _ _ _ _ (by omega) (hi.step x (by omega))
      | false =>
        have b1 := byteB_ok y h1
        cases h2 : dash p (byteA p x) with
        | false =>
          rw [rgo_one R hg h1 h2] at e
          unfold stA stB stH
          rw [h2]
          simp only [Bool.false_eq_true, if_false, Int.lt_irrefl, b1]
          exact ih _ _ _ (by omega) (by omega) hi e
        | true =>
          unfold stA stB stH
          rw [h2]
          simp only [if_true, b1]
          cases h3 : escBad p (byteA p x + 1) with
          | true =>
            have hs := (escBad_parts h3).2
            have ha := byteA_bad h3
            rw [byteB_bad y h3]
            have hi2 := hi.step (byteA p x + 1) (by omega)
            refine stop_end _ _ _ _ _ (by omega) ?_
            split
            · exact .inr (by rw [hi2.at_]; exact Int.le_refl _)
            · exact hi2
          | false =>
            rw [byteB_ok y h3]
            by_cases h4 : byteV p (byteA p x + 1) < byteV p x
            · rw [if_pos h4, hi.at_]
              have := class_low p fr fr (by omega) (by omega) _ (byteA p (byteA p x + 1)) (R ++ [(byteV p x, byteV p (byteA p x + 1))]) (Nat.le_refl _) (by omega)
              unfold classBad
              rw [this, wrongAt_low (by omega) (by omega)]
              simp
            · rw [if_neg h4]
              rw [rgo_two R hg h1 h2 h3 h4] at e
              exact ih _ _ _ (by omega) (by omega) hi e
/-- Brackets that the document takes. -/
theorem brk_cls {p : ByteArray} {x z : Nat} {f : Int → Bool} (h : brk p x = some (z, f)) : ∃ R, clsF p x (-1) = (z - 1, -1, R) ∧ z - 1 < p.size ∧ 1 ≤ z ∧ R ≠ [] ∧ f = classL R (notAt p (x + 1)) := by
  unfold brk at h
  split at h
  · rename_i y R hr
    split at h
    · rename_i hc
      simp only [Option.some.injEq, Prod.mk.injEq] at h
      obtain ⟨h1, h2⟩ := h
      refine ⟨R, ?_, by omega, by omega, hc.2, h2.symm⟩
      unfold clsF
      rw [rgo_class p x _ _ _ _ _ (Nat.le_refl _) hr]
      congr 1
      omega
    · cases h
  · cases h
theorem brk_cls_no {p : ByteArray} {x : Nat} (h : brk p x = none) : classBad p x (clsF p x (-1)) = x := by
  unfold brk at h
  split at h
  · rename_i y R hr
    split at h
    · cases h
    · rename_i hc
      unfold clsF
      rw [rgo_class p x _ _ _ _ _ (Nat.le_refl _) hr]
      unfold classBad
      rw [if_pos (by
        by_cases h1 : y < p.size
        · right
          by_cases h2 : R = []
          · exact h2
          · exact absurd ⟨h1, h2⟩ hc
        · left
          show p.size ≤ y
          omega)]
      exact Inv.at_ (.inl rfl)
  · rename_i hr
    unfold clsF
    refine class_bad p x _ _ _ _ (Nat.le_refl _) ?_ (.inl rfl) hr
    split <;> omega
theorem stp_stop {p : ByteArray} {x : Nat} (y : Int) (l : List Stp) (h : ¬ x < p.size) : stepsGo p x y l = (y, l) := by rw [stepsGo, dif_neg h]
theorem stp_all {p : ByteArray} {x : Nat} (y : Int) (l : List Stp) (h : x < p.size) (h1 : bt p x = 42) (h2 : x + 1 < p.size ∧ bt p (x + 1) = 42) : stepsGo p x y l = stepsGo p (x + 2) y (l ++ [⟨true, fun _ => true⟩]) := by rw [stepsGo, dif_pos h, if_pos h1, if_pos h2]
theorem stp_some {p : ByteArray} {x : Nat} (y : Int) (l : List Stp) (h : x < p.size) (h1 : bt p x = 42) (h2 : ¬ (x + 1 < p.size ∧ bt p (x + 1) = 42)) : stepsGo p x y l = stepsGo p (x + 1) y (l ++ [⟨true, fun c => c != 47⟩]) := by rw [stepsGo, dif_pos h, if_pos h1, if_neg h2]
theorem stp_quest {p : ByteArray} {x : Nat} (y : Int) (l : List Stp) (h : x < p.size) (h1 : bt p x = 63) : stepsGo p x y l = stepsGo p (x + 1) y (l ++ [⟨false, fun c => c != 47⟩]) := by rw [stepsGo, dif_pos h, if_neg (by omega), if_pos h1]
theorem stp_brk {p : ByteArray} {x : Nat} (y : Int) (l : List Stp) (h : x < p.size) (h1 : bt p x = 91) : stepsGo p x y l = stepsGo p ((clsF p x y).1 + 1) (classBad p x (clsF p x y)) (l ++ [⟨false, classL (clsF p x y).2.2 (notAt p (x + 1))⟩]) := by rw [stepsGo, dif_pos h, if_neg (by omega), if_neg (by omega), if_pos h1]
theorem stp_byte {p : ByteArray} {x : Nat} (y : Int) (l : List Stp) (h : x < p.size) (h1 : bt p x ≠ 42) (h2 : bt p x ≠ 63) (h3 : bt p x ≠ 91) : stepsGo p x y l = stepsGo p (byteA p x) (byteB p x y) (l ++ [⟨false, fun c => c == byteV p x⟩]) := by rw [stepsGo, dif_pos h, if_neg h1, if_neg h2, if_neg h3]
theorem steps_low (p : ByteArray) (y : Int) (h0 : 0 ≤ y) : ∀ n x l, p.size - x ≤ n → y ≤ x → (stepsGo p x y l).1 = y := by
  intro n
  induction n with
  | zero =>
    intro x l h hy
    rw [stp_stop y l (by omega)]
  | succ n ih =>
    intro x l h hy
    by_cases hx : x < p.size
    · by_cases c1 : bt p x = 42
      · by_cases c2 : x + 1 < p.size ∧ bt p (x + 1) = 42
        · rw [stp_all y l hx c1 c2]; exact ih _ _ (by omega) (by omega)
        · rw [stp_some y l hx c1 c2]; exact ih _ _ (by omega) (by omega)
      · by_cases c3 : bt p x = 63
        · rw [stp_quest y l hx c3]; exact ih _ _ (by omega) (by omega)
        · by_cases c4 : bt p x = 91
          · have hc := clsF_gt p x y
            have hl : (clsF p x y).2.1 = y := class_low p x y h0 hy _ _ [] (Nat.le_refl _) (by split <;> omega)
            have hb : classBad p x (clsF p x y) = y := by
              unfold classBad
              rw [hl, wrongAt_low h0 hy]
              simp
            rw [stp_brk y l hx c4, hb]
            exact ih _ _ (by omega) (by omega)
          · have hc := byteA_lt p x
            rw [stp_byte y l hx c1 c3 c4, byteB_low h0 hy]
            exact ih _ _ (by omega) (by omega)
    · rw [stp_stop y l hx]
theorem toStp_all : toStp ((2, fun _ => false) : Pce) = ⟨true, fun _ => true⟩ := rfl
theorem toStp_some : toStp ((1, fun _ => false) : Pce) = ⟨true, fun c => c != 47⟩ := rfl
theorem toStp_one (f : Int → Bool) : toStp ((0, f) : Pce) = ⟨false, f⟩ := rfl
theorem pcs_steps (p : ByteArray) : ∀ n x m, p.size - x ≤ n → match pcsGo p x m with
    | .inl z => (stepsGo p x (-1) (m.map toStp)).1 = (z : Int)
    | .inr m' => stepsGo p x (-1) (m.map toStp) = (-1, m'.map toStp) := by
  intro n
  induction n with
  | zero =>
    intro x m h
    rw [pcs_stop m (by omega), stp_stop (-1) _ (by omega)]
  | succ n ih =>
    intro x m h
    by_cases hx : x < p.size
    · by_cases c1 : bt p x = 42
      · by_cases c2 : x + 1 < p.size ∧ bt p (x + 1) = 42
        · have := ih (x + 2) (m ++ [((2, fun _ => false) : Pce)]) (by omega)
          rw [List.map_append, List.map_cons, List.map_nil, toStp_all] at this
          rw [pcs_all m hx c1 c2, stp_all (-1) _ hx c1 c2]
          exact this
        · have := ih (x + 1) (m ++ [((1, fun _ => false) : Pce)]) (by omega)
          rw [List.map_append, List.map_cons, List.map_nil, toStp_some] at this
          rw [pcs_some m hx c1 c2, stp_some (-1) _ hx c1 c2]
          exact this
      · by_cases c3 : bt p x = 63
        · have := ih (x + 1) (m ++ [((0, fun c => c != 47) : Pce)]) (by omega)
          rw [List.map_append, List.map_cons, List.map_nil, toStp_one] at this
          rw [pcs_quest m hx c3, stp_quest (-1) _ hx c3]
          exact this
        · by_cases c4 : bt p x = 91
          · rw [stp_brk (-1) _ hx c4]
            cases hB : brk p x with
            | none =>
              rw [pcs_brkno m hx c4 hB]
              have := clsF_gt p x (-1)
              rw [brk_cls_no hB]
              exact steps_low p x (by omega) _ _ _ (Nat.le_refl _) (by omega)
            | some F =>
              obtain ⟨z, f⟩ := F
              obtain ⟨R, e1, e2, e3, e4, e5⟩ := brk_cls hB
              have hg := brk_gt hB
              rw [pcs_brk m hx c4 hB, e1]
              have hb : classBad p x (z - 1, -1, R) = -1 := classBad_no e2 (List.length_pos_iff.2 e4)
              rw [hb]
              have := ih z (m ++ [((0, f) : Pce)]) (by omega)
              rw [List.map_append, List.map_cons, List.map_nil, toStp_one, e5] at this
              simp only [show z - 1 + 1 = z from by omega]
              rw [e5]
              exact this
          · rw [stp_byte (-1) _ hx c1 c3 c4]
            by_cases c5 : bt p x = 92
            · by_cases c6 : p.size ≤ x + 1
              · have hE : escBad p x = true := by simp [escBad, c5, c6]
                rw [pcs_escno m hx c5 c6, byteB_bad _ hE, byteA_bad hE]
                have : wrongAt (-1) x = x := Inv.at_ (.inl rfl)
                rw [this]
                exact steps_low p x (by omega) _ _ _ (Nat.le_refl _) (by omega)
              · have hE : escBad p x = false := by simp [escBad, c5]; omega
                have hv : byteV p x = bt p (x + 1) := by unfold byteV; rw [if_pos c5, if_neg c6]
                have ha : byteA p x = x + 2 := by unfold byteA; rw [if_pos c5, if_neg c6]
                have := ih (x + 2) (m ++ [((0, fun c => c == bt p (x + 1)) : Pce)]) (by omega)
                rw [List.map_append, List.map_cons, List.map_nil, toStp_one] at this
                rw [pcs_esc m hx c5 c6, byteB_ok _ hE, hv, ha]
                exact this
            · have hE : escBad p x = false := by simp [escBad, c5]
              have hv : byteV p x = bt p x := by unfold byteV; rw [if_neg c5]
              have ha : byteA p x = x + 1 := by unfold byteA; rw [if_neg c5]
              have := ih (x + 1) (m ++ [((0, fun c => c == bt p x) : Pce)]) (by omega)
              rw [List.map_append, List.map_cons, List.map_nil, toStp_one] at this
              rw [pcs_byte m hx c1 c3 c4 c5, byteB_ok _ hE, hv, ha]
              exact this
    · rw [pcs_stop m hx, stp_stop (-1) _ hx]
theorem rcheck_eq (p : ByteArray) : rcheckRes p = checkRes p := by
  unfold rcheckRes checkRes
  by_cases h : 256 < p.size
  · rw [if_pos h, if_pos h]
  · rw [if_neg h, if_neg h]
    have := pcs_steps p _ 0 [] (Nat.le_refl _)
    unfold gSteps
    rw [List.map_nil] at this
    cases hG : pcsGo p 0 [] with
    | inl z =>
      rw [hG] at this
      simp only [] at this
      rw [if_pos (by omega), this]
    | inr l =>
      rw [hG] at this
      simp only [] at this
      rw [this, if_neg (by simp)]
theorem rmatch_eq (p s : ByteArray) : rmatchRes p s = matchRes p s := by
  unfold rmatchRes matchRes
  rw [rcheck_eq]
  by_cases h : (checkRes p).2 = 0
  · rw [if_pos h, if_pos h]
    have hL : rL p = (gSteps p).2 := by
      have := pcs_steps p _ 0 [] (Nat.le_refl _)
      rw [List.map_nil] at this
      have h1 : ¬ 256 < p.size := fun c => by unfold checkRes at h; rw [if_pos c] at h; simp at h
      cases hG : pcsGo p 0 [] with
      | inl z =>
        rw [hG] at this
        simp only [] at this
        unfold checkRes gSteps at h
        rw [if_neg h1, if_pos (by omega)] at h
        simp at h
      | inr l =>
        rw [hG] at this
        simp only [] at this
        unfold rL gSteps
        rw [hG, this]
    rw [hL]
  · rw [if_neg h, if_neg h]
end Go.Proofs.Ytinhlaiogkmkfaa.G
end
