import Derived.Test.YtinhlaiogkmkfaaQPAx0
import Derived.Test.YtinhlaiogkmkfaaQPAx1
import Derived.Test.YtinhlaiogkmkfaaQPAx3
import Derived.Test.YtinhlaiogkmkfaaQPAx6
-- Printed by a program of this session over the kit's print, with contracts of this session's own. Not trusted: Lean checks it.
namespace Go.Proofs.Ytinhlaiogkmkfaa.PA
open Go.RowKit Go.Proofs.YtinhlaiogkmkfaaW.PrintWords Go.Proofs.YtinhlaiogkmkfaaW.PrintLast Go.Proofs.YtinhlaiogkmkfaaW.PrintMore
attribute [local go_sem] max2_int min2_int max_two min_two max_three min_three max_four min_four   -- for this text's walks alone
set_option linter.unusedVariables false
set_option linter.unusedSimpArgs false

attribute [local go_sem high] eqA45
/-! ### rule_Fold: function 19 (a contract of this session) -/
section
attribute [local simp, local go_sem] G.alloc_drewN G.setCell_drewN
/-- A part on the stack: its slice, and the steps that it holds. -/
structure Pv where
  A : Option Addr
  n : Nat
  c : Nat
  l : List S45
def ptE : G.El Try.prog 66 64 Pv where
  enc q := [.slice q.A q.n q.c]
  sz := 1
  wd := 24
  zero := .agg #[.slice none 0 0]
  hpos := by decide
  henc _ := rfl
  hone q u hu := by
    simp only [List.mem_cons, List.not_mem_nil, or_false] at hu
    subst hu
    rfl
  hi := by kernel_rfl
  hzs := rfl
  hu := Try.underlying64
def Vw (W : World) (sv : Value) (q : Pv) : Prop := Kd.V k45 45 W 0 (fun k => some k ≠ sv.ownBlock) (.slice q.A q.n q.c) q.l
def foldX (k : Nat) (vs : List S56) (x : S45) (l : List (List S45)) : Option (List S45) :=
  if x.f0 = 11 then (match l with | [p] => rule_not.f k x.f0 x.f1 p | _ => none)
  else if x.f0 = 12 ∨ x.f0 = 13 then (match l with | [p, q] => rule_logic.f k x.f0 x.f1 p q | _ => none)
  else if x.f0 = 6 ∨ x.f0 = 7 ∨ x.f0 = 8 ∨ x.f0 = 9 ∨ x.f0 = 10 then rule_texts.f k x.f0 x.f1 (l.map S66.mk)
  else rule_named.f k x.f0 x.f1 vs
def foldS (k : Nat) (vs : List S56) (x : S45) (st : List (List S45)) : Option (List (List S45)) :=
  (rule_arity.f k x.f0).bind fun a => if 0 ≤ a ∧ a ≤ (st.length : Int) then (foldX k vs x (st.drop (st.length - a.toNat))).map fun r => st.take (st.length - a.toNat) ++ [r] else none
def foldR (k : Nat) (vs : List S56) : List S45 → List (List S45) → Option (List (List S45))
  | [], st => some st
  | x :: r, st => (foldS k vs x st).bind (foldR k vs r)
/-- How many parts a kind takes. -/
def arK (x : Int) : Nat := if x = 6 ∨ x = 11 then 1 else if x = 7 ∨ x = 8 ∨ x = 9 ∨ x = 10 ∨ x = 12 ∨ x = 13 then 2 else 0
theorem arK_pos {x : Int} (h : ¬ arK x = 0) : x = 6 ∨ x = 7 ∨ x = 8 ∨ x = 9 ∨ x = 10 ∨ x = 11 ∨ x = 12 ∨ x = 13 := by
  by_cases h1 : x = 6 ∨ x = 11
  · omega
  · by_cases h2 : x = 7 ∨ x = 8 ∨ x = 9 ∨ x = 10 ∨ x = 12 ∨ x = 13
    · omega
    · exact absurd (by unfold arK; rw [if_neg h1, if_neg h2]) h
theorem len_two {α : Type} {l : List α} (h : l.length = 2) : ∃ a b, l = [a, b] := by
  match l, h with
  | [a, b], _ => exact ⟨a, b, rfl⟩
theorem arity_is {k : Nat} {x a : Int} (h : rule_arity.f k x = some a) : a = (arK x : Int) := by
  unfold rule_arity.f at h
  cases k with
  | zero => simp [rule_arity.j0] at h
  | succ k =>
    simp only [rule_arity.j0] at h
    unfold arK
    by_cases h6 : x = 6
    · subst h6; simp at h ⊢; omega
    · by_cases h11 : x = 11
      · subst h11; simp at h ⊢; omega
      · by_cases h7 : x = 7
        · subst h7; simp at h ⊢; omega
        · by_cases h8 : x = 8
          · subst h8; simp at h ⊢; omega
          · by_cases h9 : x = 9
            · subst h9; simp at h ⊢; omega
            · by_cases h10 : x = 10
              · subst h10; simp at h ⊢; omega
              · by_cases h12 : x = 12
                · subst h12; simp at h ⊢; omega
                · by_cases h13 : x = 13
                  · subst h13; simp at h ⊢; omega
                  · simp [h6, h11, h7, h8, h9, h10, h12, h13] at h ⊢; omega
section
variable {W w1 : World} {sv u v1 : Value} {q : Pv} {A : Option Addr} {c b B0 : Nat} {r : List S45}
theorem Vw.new (h : Vw W sv q) (hb : G.But G.No W w1) : Vw w1 sv q := Kd.V_below h hb.belowNo
theorem Vw.re (h : Vw W sv q) (e : u.ownBlock = sv.ownBlock) : Vw W u q := by unfold Vw; rw [e]; exact h
theorem Vw.after (h : Vw W u q) (hg : W.grownBy w1 u.ownBlock) (hat : v1.ownBlock = u.ownBlock ∨ ∃ b, v1.ownBlock = some b ∧ W.heap.size ≤ b) : Vw w1 v1 q :=
  Kd.V_mono (Kd.V_after (ok := fun _ => True) (Kd.V_mono h (fun k hk => ⟨trivial, hk⟩)) hg hat) (fun k hk => hk.2)
theorem Vw.ofR (h : Kd.R k45 45 W B0 (fun _ => True) (.slice A r.length c) r) (hu : ∀ k, u.ownBlock = some k → k < B0) : Vw W u ⟨A, r.length, c, r⟩ :=
  Kd.V_mono (Kd.R_V (Kd.R_bound h)) (fun k hk e => by have := hu k e.symm; have := hk.2.1; omega)
theorem Vw.len (h : Vw W sv q) : q.n = q.l.length ∧ q.n ≤ q.c ∧ Kd.C k45 W q.A q.l.length q.l := Kd.V_reads' h
theorem pvC {g m c : Nat} {ls : List Pv} {base : Nat} (ho : ptE.Own W base (.slice (some ⟨g, 0, none⟩) m c) ls) (hv : ∀ q ∈ ls, Vw W sv q) (hm : ls.length ≤ 9223372036854775807) :
    Kd.C k66 W (some ⟨g, 0, none⟩) ((ls.map Pv.l).map S66.mk).length ((ls.map Pv.l).map S66.mk) := by
  refine ⟨rfl, by simpa using hm, fun _ => ⟨_, rfl, fun j p hp => ?_⟩⟩
  simp only [List.getElem?_map, Option.map_eq_some_iff] at hp
  obtain ⟨l, ⟨q, hq, rfl⟩, rfl⟩ := hp
  have hx := (hv q (List.mem_of_getElem? hq)).len
  refine ⟨[.slice q.A q.n q.c], rfl, ?_, ?_⟩
  · rw [hx.1]
    exact k66_mk W ⟨q.l⟩ (by have := hx.2.1; rw [hx.1] at this; exact this) hx.2.2
  · intro i u hu
    have hi : i = 0 := by
      cases i with
      | zero => rfl
      | succ i => simp at hu
    subst hi
    simp at hu
    subst hu
    have := ho.cell j q hq 0 _ rfl
    rw [G.addr_add]
    show W.cell? ⟨g, 0 + (j * 1 + 0), none⟩ = _
    rw [Nat.zero_add]
    exact this
theorem fold_close {w w6 : World} {st0 : List Pv} {nw : Pv} {g6 c6 n6 : Nat} (hb : G.But G.No w W) (hO : ptE.Own W w.heap.size u st0) (hV : ∀ q ∈ st0, Vw W u q) (hN : Vw W u nw)
    (hown : ptE.Own w6 w.heap.size (.slice (some ⟨g6, 0, none⟩) n6 c6) (st0 ++ [nw])) (hg : W.grownBy w6 u.ownBlock) (hat : u.ownBlock = some g6 ∨ g6 = W.heap.size) :
    G.But G.No w w6 ∧ ptE.Own w6 w.heap.size (.slice (some ⟨g6, 0, none⟩) n6 c6) (st0 ++ [nw]) ∧ ∀ q ∈ st0 ++ [nw], Vw w6 (.slice (some ⟨g6, 0, none⟩) n6 c6) q := by
  refine ⟨G.El.Own.grown hb hO hg (Nat.le_refl _), hown, fun q hq => ?_⟩
  have hat' : (Value.slice (some ⟨g6, 0, none⟩) n6 c6).ownBlock = u.ownBlock ∨ ∃ b, (Value.slice (some ⟨g6, 0, none⟩) n6 c6).ownBlock = some b ∧ W.heap.size ≤ b := by
    rcases hat with h | h
    · exact .inl (by rw [h]; rfl)
    · exact .inr ⟨g6, rfl, by omega⟩
  rcases List.mem_append.1 hq with h | h
  · exact (hV q h).after hg hat'
  · rw [List.mem_singleton.1 h]; exact hN.after hg hat'
end
def FoldAt (w : World) (k : Nat) (l0 : List S45) (vs : List S56) (F : Option (List (List S45))) (gk : Nat) (v6 v16 : Value) (wr : World) : Prop :=
  ∃ (i : Nat) (st : List Pv), gk = l0.length - i ∧ i ≤ l0.length ∧ v16 = .int .i64 (i : Int) ∧ G.But G.No w wr ∧ ptE.Own wr w.heap.size v6 st ∧ (∀ q ∈ st, Vw wr v6 q) ∧ st.length ≤ i ∧ foldR k vs (l0.drop i) (st.map Pv.l) = F
theorem foldR_step {k : Nat} {vs : List S56} {x : S45} {rest : List S45} {st : List Pv} {R : List (List S45)} (h : foldR k vs (x :: rest) (st.map Pv.l) = some R) :
    rule_arity.f k x.f0 = some (arK x.f0 : Int) ∧ ∃ st0 ls r, st = st0 ++ ls ∧ ls.length = arK x.f0 ∧ foldX k vs x (ls.map Pv.l) = some r ∧ foldR k vs rest (st0.map Pv.l ++ [r]) = some R := by
  have h' : (foldS k vs x (st.map Pv.l)).bind (foldR k vs rest) = some R := h
  obtain ⟨s, hs, hr⟩ := Option.bind_eq_some_iff.1 h'
  unfold foldS at hs
  obtain ⟨a, ha, hb⟩ := Option.bind_eq_some_iff.1 hs
  have hk := arity_is ha
  subst hk
  refine ⟨ha, ?_⟩
  split at hb
  · rename_i hc
    obtain ⟨r, hx, he⟩ := Option.map_eq_some_iff.1 hb
    rw [List.length_map] at hc hx he
    have hc2 : arK x.f0 ≤ st.length := by omega
    refine ⟨st.take (st.length - arK x.f0), st.drop (st.length - arK x.f0), r, (List.take_append_drop _ _).symm, by simp; omega, ?_, ?_⟩
    · rw [← List.map_drop] at hx
      simpa using hx
    · rw [← List.map_take] at he
      rw [← hr, ← he]
      simp
  · cases hb
end

/-! ### shuttlelaw0_SameSteps: function 22 -/
def shuttlelaw0_SameSteps.l0 : Nat → List (S45) → List (S45) → Int → Option (Bool)
  | 0, _, _, _ => none
  | k + 1, x0, x1, x5 => if x5 < (x0.length : Int) then (if 0 ≤ x5 then (if x5 < (x1.length : Int) then (if (!(((rd_T45 x0 x5).f0) == ((rd_T45 x1 x5).f0)) || (!((((rd_T45 x0 x5).f1).toList) == (((rd_T45 x1 x5).f1).toList)))) = true then (some false) else (shuttlelaw0_SameSteps.l0 k x0 x1 (wrap64 (x5 + 1)))) else (none)) else (none)) else (some true)
def shuttlelaw0_SameSteps.f (k : Nat) (l0 : List (S45)) (l1 : List (S45)) : Option (Bool) := if (l0.length : Int) = (l1.length : Int) then (shuttlelaw0_SameSteps.l0 k l0 l1 0) else (some false)
set_option maxHeartbeats 8000000 in
set_option maxRecDepth 100000 in
theorem shuttlelaw0_SameSteps.calls (k : Nat) (A0 : Option Addr) (c0 : Nat) (l0 : List (S45)) (A1 : Option Addr) (c1 : Nat) (l1 : List (S45)) (r : Bool) (w : World) (hr0 : Kd.C k45 w A0 l0.length l0) (hc0 : l0.length ≤ c0) (hr1 : Kd.C k45 w A1 l1.length l1) (hc1 : l1.length ≤ c1) (h : shuttlelaw0_SameSteps.f k l0 l1 = some r) :
    Calls Try.prog 22 #[.slice A0 l0.length c0, .slice A1 l1.length c1] w fun e w' => e = .returned (.bool r) ∧ Drawn0 w w' := by
  have hu45 := Try.underlying45
  have HR0 := Aside0.mk hr0
  have HC0 := Aside0.mk hc0
  clear hr0 hc0
  have HR1 := Aside0.mk hr1
  have HC1 := Aside0.mk hc1
  clear hr1 hc1
  have H : (if (l0.length : Int) = (l1.length : Int) then (shuttlelaw0_SameSteps.l0 k l0 l1 0) else (some false)) = some r := h
  clear h
  by_cases c3 : (l0.length : Int) = (l1.length : Int)
  · rw [if_pos c3] at H
    have c3b0 : ((l0.length : Int) == (l1.length : Int)) = true := beq_iff_eq.mpr c3
    have c3b1 : ((l0.length : Int) != (l1.length : Int)) = false := bne_eq_false_iff_eq.mpr c3
    have c3b2 : (l0.length == l1.length) = true := by first | simpa using c3 | (simp at c3 ⊢; omega)
    clear c3
    have H' := Aside0.mk H
    clear H
    go_enter Try.func22, Try.ntmps22
    go_wp2
    repeat (go_quiet (fail); try go_wp2)
    go_loopg [5] k (fun kq v5 w' => ∃ (x5_1 : Int), v5 = .int .i64 x5_1 ∧ Aside0 (shuttlelaw0_SameSteps.l0 kq l0 l1 x5_1 = some r) ∧ Aside0 (kq ≤ k) ∧ Drawn0 w w')
    case atStart => exact ⟨(0), (by first | rfl | (simp; done) | (simp [*]; done)), H', ⟨Nat.le_refl _⟩, by repeat (first | exact Drawn0.refl _ | apply Drawn0.step)⟩
    case round =>
      clear H'
      try clear c1
      try clear c2
      try clear p2
      try clear c3
      try clear c3b0
      try clear c3b1
      try clear c3b2
      obtain ⟨x5_1, rfl, HA, HK1, ⟨m1, rfl⟩⟩ := hrel
      cases gk with
      | zero => exact absurd HA.out (by simp [shuttlelaw0_SameSteps.l0])
      | succ k1 =>
        have H := HA.out
        clear HA
        simp only [shuttlelaw0_SameSteps.l0] at H
        by_cases c4 : x5_1 < (l0.length : Int)
        · rw [if_pos c4] at H
          have c4b0 : decide (x5_1 < (l0.length : Int)) = true := decide_eq_true c4
          clear c4
          by_cases c5 : 0 ≤ x5_1
          · rw [if_pos c5] at H
            have c5b0 : decide (0 ≤ x5_1) = true := decide_eq_true c5
            clear c5
            by_cases c6 : x5_1 < (l1.length : Int)
            · rw [if_pos c6] at H
              have c6b0 : decide (x5_1 < (l1.length : Int)) = true := decide_eq_true c6
              clear c6
              by_cases c7 : (!(((rd_T45 l0 x5_1).f0) == ((rd_T45 l1 x5_1).f0)) || (!((((rd_T45 l0 x5_1).f1).toList) == (((rd_T45 l1 x5_1).f1).toList)))) = true
              · rw [if_pos c7] at H
                have c7b0 : (!(((rd_T45 l0 x5_1).f0) == ((rd_T45 l1 x5_1).f0)) || (!((((rd_T45 l0 x5_1).f1).toList) == (((rd_T45 l1 x5_1).f1).toList)))) = true := c7
                clear c7
                obtain rfl := Option.some.inj H
                have p212 : 0 ≤ (x5_1 : Int) := of_decide_eq_true (by first | (with_reducible assumption) | assumption)
                have q212 : x5_1 < (l0.length : Int) := of_decide_eq_true (by first | (with_reducible assumption) | assumption)
                obtain ⟨ad212, e212, hx212_0, hx212_1⟩ := at_T45 HR0.out x5_1 p212 q212
                cases e212
                replace p212 := eq_true p212
                replace q212 := eq_true q212
                have p213 : 0 ≤ (x5_1 : Int) := of_decide_eq_true (by first | (with_reducible assumption) | assumption)
                have q213 : x5_1 < (l1.length : Int) := of_decide_eq_true (by first | (with_reducible assumption) | assumption)
                obtain ⟨ad213, e213, hx213_0, hx213_1⟩ := at_T45 HR1.out x5_1 p213 q213
                cases e213
                replace p213 := eq_true p213
                replace q213 := eq_true q213
                go_wp2
                repeat (go_quiet (fail); try go_wp2)
                go_ret
                exact ⟨by first | rfl | (simp; done) | (simp [*]; done), by repeat (first | exact Drawn0.refl _ | apply Drawn0.step)⟩
              · rw [if_neg c7] at H
                have c7b0 : (!(((rd_T45 l0 x5_1).f0) == ((rd_T45 l1 x5_1).f0)) || (!((((rd_T45 l0 x5_1).f1).toList) == (((rd_T45 l1 x5_1).f1).toList)))) = false := by simpa using c7
                clear c7
                have H' := Aside0.mk H
                clear H
                have p212 : 0 ≤ (x5_1 : Int) := of_decide_eq_true (by first | (with_reducible assumption) | assumption)
                have q212 : x5_1 < (l0.length : Int) := of_decide_eq_true (by first | (with_reducible assumption) | assumption)
                obtain ⟨ad212, e212, hx212_0, hx212_1⟩ := at_T45 HR0.out x5_1 p212 q212
                cases e212
                replace p212 := eq_true p212
                replace q212 := eq_true q212
                have p213 : 0 ≤ (x5_1 : Int) := of_decide_eq_true (by first | (with_reducible assumption) | assumption)
                have q213 : x5_1 < (l1.length : Int) := of_decide_eq_true (by first | (with_reducible assumption) | assumption)
                obtain ⟨ad213, e213, hx213_0, hx213_1⟩ := at_T45 HR1.out x5_1 p213 q213
                cases e213
                replace p213 := eq_true p213
                replace q213 := eq_true q213
                go_wp2
                repeat (go_quiet (fail); try go_wp2)
                go_roundg k1
                case measure => have := HK1.out; omega
                case rel => exact ⟨(wrap64 (x5_1 + 1)), (by first | rfl | (simp; done) | (simp [*]; done)), H', ⟨by have := HK1.out; omega⟩, by repeat (first | exact Drawn0.refl _ | apply Drawn0.step)⟩
            · rw [if_neg c6] at H
              exact absurd H (by simp)
          · rw [if_neg c5] at H
            exact absurd H (by simp)
        · rw [if_neg c4] at H
          have c4b0 : decide (x5_1 < (l0.length : Int)) = false := decide_eq_false c4
          clear c4
          obtain rfl := Option.some.inj H
          go_wp2
          repeat (go_quiet (fail); try go_wp2)
          go_ret
          exact ⟨by first | rfl | (simp; done) | (simp [*]; done), by repeat (first | exact Drawn0.refl _ | apply Drawn0.step)⟩
  · rw [if_neg c3] at H
    have c3b0 : ((l0.length : Int) == (l1.length : Int)) = false := beq_eq_false_iff_ne.mpr c3
    have c3b1 : ((l0.length : Int) != (l1.length : Int)) = true := bne_iff_ne.mpr c3
    have c3b2 : (l0.length == l1.length) = false := by first | simpa using c3 | (simp at c3 ⊢; omega)
    obtain rfl := Option.some.inj H
    go_enter Try.func22, Try.ntmps22
    go_wp2
    repeat (go_quiet (fail); try go_wp2)
    go_ret
    exact ⟨by first | rfl | (simp; done) | (simp [*]; done), by repeat (first | exact Drawn0.refl _ | apply Drawn0.step)⟩

/-! ### rule_one: function 45 -/
def rule_one.f (a0 : Int) : Option (Bool) := if a0 ≥ 0 then (some (decide (a0 ≤ 3))) else (some false)
set_option maxHeartbeats 8000000 in
set_option maxRecDepth 100000 in
theorem rule_one.calls (a0 : Int) (r : Bool) (w : World) (h : rule_one.f a0 = some r) :
    Calls Try.prog 45 #[.int .i64 a0] w fun e w' => e = .returned (.bool r) ∧ Drawn0 w w' := by
  have H : (if a0 ≥ 0 then (some (decide (a0 ≤ 3))) else (some false)) = some r := h
  clear h
  by_cases c2 : a0 ≥ 0
  · rw [if_pos c2] at H
    have c2b0 : decide (0 ≤ a0) = true := decide_eq_true c2
    clear c2
    obtain rfl := Option.some.inj H
    go_enter Try.func45, Try.ntmps45
    go_wp2
    go_ret
    exact ⟨by first | rfl | (simp; done) | (simp [*]; done), by repeat (first | exact Drawn0.refl _ | apply Drawn0.step)⟩
  · rw [if_neg c2] at H
    have c2b0 : decide (0 ≤ a0) = false := decide_eq_false c2
    clear c2
    obtain rfl := Option.some.inj H
    go_enter Try.func45, Try.ntmps45
    go_wp2
    go_ret
    exact ⟨by first | rfl | (simp; done) | (simp [*]; done), by repeat (first | exact Drawn0.refl _ | apply Drawn0.step)⟩

end Go.Proofs.Ytinhlaiogkmkfaa.PA
