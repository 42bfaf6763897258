import Derived.Test.YtinhlaiogkmkfaaQPAx0
import Derived.Test.YtinhlaiogkmkfaaQPAx1
import Derived.Test.YtinhlaiogkmkfaaQPAx3
import Derived.Test.YtinhlaiogkmkfaaQPAx4
import Derived.Test.YtinhlaiogkmkfaaQPAx5
import Derived.Test.YtinhlaiogkmkfaaQPAx6
-- Printed by a program of this session over the kit's print, with contracts of this session's own. Not trusted: Lean checks it.
namespace Go.Proofs.Ytinhlaiogkmkfaa.PA
open Go.RowKit Go.Proofs.YtinhlaiogkmkfaaW.PrintWords Go.Proofs.YtinhlaiogkmkfaaW.PrintLast Go.Proofs.YtinhlaiogkmkfaaW.PrintMore
attribute [local go_sem] max2_int min2_int max_two min_two max_three min_three max_four min_four   -- for this text's walks alone
set_option linter.unusedVariables false
set_option linter.unusedSimpArgs false

attribute [local go_sem high] eqA45
/-! ### rule_Fold: function 19 (a contract of this session) -/
section
attribute [local simp, local go_sem] G.alloc_drewN G.setCell_drewN
/-- A part on the stack: its slice, and the steps that it holds. -/
structure Pv where
  A : Option Addr
  n : Nat
  c : Nat
  l : List S45
def ptE : G.El Try.prog 66 64 Pv where
  enc q := [.slice q.A q.n q.c]
  sz := 1
  wd := 24
  zero := .agg #[.slice none 0 0]
  hpos := by decide
  henc _ := rfl
  hone q u hu := by
    simp only [List.mem_cons, List.not_mem_nil, or_false] at hu
    subst hu
    rfl
  hi := by kernel_rfl
  hzs := rfl
  hu := Try.underlying64
def Vw (W : World) (sv : Value) (q : Pv) : Prop := Kd.V k45 45 W 0 (fun k => some k ≠ sv.ownBlock) (.slice q.A q.n q.c) q.l
def foldX (k : Nat) (vs : List S56) (x : S45) (l : List (List S45)) : Option (List S45) :=
  if x.f0 = 11 then (match l with | [p] => rule_not.f k x.f0 x.f1 p | _ => none)
  else if x.f0 = 12 ∨ x.f0 = 13 then (match l with | [p, q] => rule_logic.f k x.f0 x.f1 p q | _ => none)
  else if x.f0 = 6 ∨ x.f0 = 7 ∨ x.f0 = 8 ∨ x.f0 = 9 ∨ x.f0 = 10 then rule_texts.f k x.f0 x.f1 (l.map S66.mk)
  else rule_named.f k x.f0 x.f1 vs
def foldS (k : Nat) (vs : List S56) (x : S45) (st : List (List S45)) : Option (List (List S45)) :=
  (rule_arity.f k x.f0).bind fun a => if 0 ≤ a ∧ a ≤ (st.length : Int) then (foldX k vs x (st.drop (st.length - a.toNat))).map fun r => st.take (st.length - a.toNat) ++ [r] else none
def foldR (k : Nat) (vs : List S56) : List S45 → List (List S45) → Option (List (List S45))
  | [], st => some st
  | x :: r, st => (foldS k vs x st).bind (foldR k vs r)
def rule_Fold.f (k : Nat) (l0 : List S45) (l1 : List S56) : Option (List S45 × Int) :=
  (expr_Check.f l0).bind fun c => if c = true then (if l0.length ≤ 9000 then (foldR k l1 l0 []).bind fun st => (st.head?).bind fun p => if p.length < 5864062014805 then some (p, 0) else none else none) else some ([], 120)
theorem foldX.mono (k : Nat) (vs : List S56) (x : S45) (l : List (List S45)) : LeO (foldX k vs x l) (foldX (k + 1) vs x l) := by
  unfold foldX
  refine LeO.ite ?_ (LeO.ite ?_ (LeO.ite (rule_texts.mono _ _ _ _) (rule_named.mono _ _ _ _)))
  · split
    · exact rule_not.mono _ _ _ _
    · exact LeO.refl _
  · split
    · exact rule_logic.mono _ _ _ _ _
    · exact LeO.refl _
theorem foldS.mono (k : Nat) (vs : List S56) (x : S45) (st : List (List S45)) : LeO (foldS k vs x st) (foldS (k + 1) vs x st) := by
  unfold foldS
  refine LeO.bind (rule_arity.mono _ _) (fun a => LeO.ite (LeO.map _ (foldX.mono _ _ _ _)) (LeO.refl _))
theorem foldR.mono (k : Nat) (vs : List S56) : ∀ l st, LeO (foldR k vs l st) (foldR (k + 1) vs l st) := by
  intro l
  induction l with
  | nil => intro st; exact LeO.refl _
  | cons x r ih => intro st; exact LeO.bind (foldS.mono _ _ _ _) (fun s => ih s)
theorem rule_Fold.mono : ∀ l0 l1 k, LeO (rule_Fold.f k l0 l1) (rule_Fold.f (k + 1) l0 l1) := by
  intro l0 l1 k
  unfold rule_Fold.f
  exact LeO.bind (LeO.refl _) (fun c => LeO.ite (LeO.ite (LeO.bind (foldR.mono _ _ _ _) (fun s => LeO.refl _)) (LeO.refl _)) (LeO.refl _))
/-- How many parts a kind takes. -/
def arK (x : Int) : Nat := if x = 6 ∨ x = 11 then 1 else if x = 7 ∨ x = 8 ∨ x = 9 ∨ x = 10 ∨ x = 12 ∨ x = 13 then 2 else 0
theorem arK_pos {x : Int} (h : ¬ arK x = 0) : x = 6 ∨ x = 7 ∨ x = 8 ∨ x = 9 ∨ x = 10 ∨ x = 11 ∨ x = 12 ∨ x = 13 := by
  by_cases h1 : x = 6 ∨ x = 11
  · omega
  · by_cases h2 : x = 7 ∨ x = 8 ∨ x = 9 ∨ x = 10 ∨ x = 12 ∨ x = 13
    · omega
    · exact absurd (by unfold arK; rw [if_neg h1, if_neg h2]) h
theorem len_two {α : Type} {l : List α} (h : l.length = 2) : ∃ a b, l = [a, b] := by
  match l, h with
  | [a, b], _ => exact ⟨a, b, rfl⟩
theorem arity_is {k : Nat} {x a : Int} (h : rule_arity.f k x = some a) : a = (arK x : Int) := by
  unfold rule_arity.f at h
  cases k with
  | zero => simp [rule_arity.j0] at h
  | succ k =>
    simp only [rule_arity.j0] at h
    unfold arK
    by_cases h6 : x = 6
    · subst h6; simp at h ⊢; omega
    · by_cases h11 : x = 11
      · subst h11; simp at h ⊢; omega
      · by_cases h7 : x = 7
        · subst h7; simp at h ⊢; omega
        · by_cases h8 : x = 8
          · subst h8; simp at h ⊢; omega
          · by_cases h9 : x = 9
            · subst h9; simp at h ⊢; omega
            · by_cases h10 : x = 10
              · subst h10; simp at h ⊢; omega
              · by_cases h12 : x = 12
                · subst h12; simp at h ⊢; omega
                · by_cases h13 : x = 13
                  · subst h13; simp at h ⊢; omega
                  · simp [h6, h11, h7, h8, h9, h10, h12, h13] at h ⊢; omega
section
variable {W w1 : World} {sv u v1 : Value} {q : Pv} {A : Option Addr} {c b B0 : Nat} {r : List S45}
theorem Vw.below (h : Vw W sv q) (hb : Below W.heap.size W w1) : Vw w1 sv q := Kd.V_below h hb
theorem Vw.new (h : Vw W sv q) (hb : G.But G.No W w1) : Vw w1 sv q := Kd.V_below h hb.belowNo
theorem Vw.re (h : Vw W sv q) (e : u.ownBlock = sv.ownBlock) : Vw W u q := by unfold Vw; rw [e]; exact h
theorem Vw.after (h : Vw W u q) (hg : W.grownBy w1 u.ownBlock) (hat : v1.ownBlock = u.ownBlock ∨ ∃ b, v1.ownBlock = some b ∧ W.heap.size ≤ b) : Vw w1 v1 q :=
  Kd.V_mono (Kd.V_after (ok := fun _ => True) (Kd.V_mono h (fun k hk => ⟨trivial, hk⟩)) hg hat) (fun k hk => hk.2)
theorem Vw.ofR (h : Kd.R k45 45 W B0 (fun _ => True) (.slice A r.length c) r) (hu : ∀ k, u.ownBlock = some k → k < B0) : Vw W u ⟨A, r.length, c, r⟩ :=
  Kd.V_mono (Kd.R_V (Kd.R_bound h)) (fun k hk e => by have := hu k e.symm; have := hk.2.1; omega)
theorem Vw.ofV (h : Kd.V k45 45 W b (fun k => some k ≠ u.ownBlock ∨ B0 ≤ k) (.slice A r.length c) r) (hu : ∀ k, u.ownBlock = some k → k < B0) : Vw W u ⟨A, r.length, c, r⟩ :=
  Kd.V_mono h (fun k hk e => by
    rcases hk with hk | hk
    · exact hk e
    · have := hu k e.symm; omega)
theorem Vw.len (h : Vw W sv q) : q.n = q.l.length ∧ q.n ≤ q.c ∧ Kd.C k45 W q.A q.l.length q.l := Kd.V_reads' h
theorem pvC {g m c : Nat} {ls : List Pv} {base : Nat} (ho : ptE.Own W base (.slice (some ⟨g, 0, none⟩) m c) ls) (hv : ∀ q ∈ ls, Vw W sv q) (hm : ls.length ≤ 9223372036854775807) :
    Kd.C k66 W (some ⟨g, 0, none⟩) ((ls.map Pv.l).map S66.mk).length ((ls.map Pv.l).map S66.mk) := by
  refine ⟨rfl, by simpa using hm, fun _ => ⟨_, rfl, fun j p hp => ?_⟩⟩
  simp only [List.getElem?_map, Option.map_eq_some_iff] at hp
  obtain ⟨l, ⟨q, hq, rfl⟩, rfl⟩ := hp
  have hx := (hv q (List.mem_of_getElem? hq)).len
  refine ⟨[.slice q.A q.n q.c], rfl, ?_, ?_⟩
  · rw [hx.1]
    exact k66_mk W ⟨q.l⟩ (by have := hx.2.1; rw [hx.1] at this; exact this) hx.2.2
  · intro i u hu
    have hi : i = 0 := by
      cases i with
      | zero => rfl
      | succ i => simp at hu
    subst hi
    simp at hu
    subst hu
    have := ho.cell j q hq 0 _ rfl
    rw [G.addr_add]
    show W.cell? ⟨g, 0 + (j * 1 + 0), none⟩ = _
    rw [Nat.zero_add]
    exact this
theorem stay {g o gs n c : Nat} {v : Value} (hg : W.grownBy w1 (Value.slice (some ⟨gs, 0, none⟩) n c).ownBlock) (hne : g ≠ gs) (h : W.cell? ⟨g, o, none⟩ = some v) : w1.cell? ⟨g, o, none⟩ = some v :=
  (World.cell?_of_block (w := W) (hg.block g (World.block_lt_of_cell? W _ h) (fun e => hne (by injection e)))).trans h
theorem fold_close {w w6 : World} {st0 : List Pv} {nw : Pv} {g6 c6 n6 : Nat} (hb : G.But G.No w W) (hO : ptE.Own W w.heap.size u st0) (hV : ∀ q ∈ st0, Vw W u q) (hN : Vw W u nw)
    (hown : ptE.Own w6 w.heap.size (.slice (some ⟨g6, 0, none⟩) n6 c6) (st0 ++ [nw])) (hg : W.grownBy w6 u.ownBlock) (hat : u.ownBlock = some g6 ∨ g6 = W.heap.size) :
    G.But G.No w w6 ∧ ptE.Own w6 w.heap.size (.slice (some ⟨g6, 0, none⟩) n6 c6) (st0 ++ [nw]) ∧ ∀ q ∈ st0 ++ [nw], Vw w6 (.slice (some ⟨g6, 0, none⟩) n6 c6) q := by
  refine ⟨G.El.Own.grown hb hO hg (Nat.le_refl _), hown, fun q hq => ?_⟩
  have hat' : (Value.slice (some ⟨g6, 0, none⟩) n6 c6).ownBlock = u.ownBlock ∨ ∃ b, (Value.slice (some ⟨g6, 0, none⟩) n6 c6).ownBlock = some b ∧ W.heap.size ≤ b := by
    rcases hat with h | h
    · exact .inl (by rw [h]; rfl)
    · exact .inr ⟨g6, rfl, by omega⟩
  rcases List.mem_append.1 hq with h | h
  · exact (hV q h).after hg hat'
  · rw [List.mem_singleton.1 h]; exact hN.after hg hat'
end
def FoldAt (w : World) (k : Nat) (l0 : List S45) (vs : List S56) (F : Option (List (List S45))) (gk : Nat) (v6 v16 : Value) (wr : World) : Prop :=
  ∃ (i : Nat) (st : List Pv), gk = l0.length - i ∧ i ≤ l0.length ∧ v16 = .int .i64 (i : Int) ∧ G.But G.No w wr ∧ ptE.Own wr w.heap.size v6 st ∧ (∀ q ∈ st, Vw wr v6 q) ∧ st.length ≤ i ∧ foldR k vs (l0.drop i) (st.map Pv.l) = F
theorem foldR_step {k : Nat} {vs : List S56} {x : S45} {rest : List S45} {st : List Pv} {R : List (List S45)} (h : foldR k vs (x :: rest) (st.map Pv.l) = some R) :
    rule_arity.f k x.f0 = some (arK x.f0 : Int) ∧ ∃ st0 ls r, st = st0 ++ ls ∧ ls.length = arK x.f0 ∧ foldX k vs x (ls.map Pv.l) = some r ∧ foldR k vs rest (st0.map Pv.l ++ [r]) = some R := by
  have h' : (foldS k vs x (st.map Pv.l)).bind (foldR k vs rest) = some R := h
  obtain ⟨s, hs, hr⟩ := Option.bind_eq_some_iff.1 h'
  unfold foldS at hs
  obtain ⟨a, ha, hb⟩ := Option.bind_eq_some_iff.1 hs
  have hk := arity_is ha
  subst hk
  refine ⟨ha, ?_⟩
  split at hb
  · rename_i hc
    obtain ⟨r, hx, he⟩ := Option.map_eq_some_iff.1 hb
    rw [List.length_map] at hc hx he
    have hc2 : arK x.f0 ≤ st.length := by omega
    refine ⟨st.take (st.length - arK x.f0), st.drop (st.length - arK x.f0), r, (List.take_append_drop _ _).symm, by simp; omega, ?_, ?_⟩
    · rw [← List.map_drop] at hx
      simpa using hx
    · rw [← List.map_take] at he
      rw [← hr, ← he]
      simp
  · cases hb
set_option maxHeartbeats 16000000 in
set_option maxRecDepth 100000 in
theorem rule_Fold.calls (k : Nat) (A0 : Option Addr) (c0 : Nat) (l0 : List S45) (A1 : Option Addr) (c1 : Nat) (l1 : List S56) (r1 : List S45) (r2 : Int) (w : World) (hr0 : Kd.C k45 w A0 l0.length l0) (hc0 : l0.length ≤ c0) (hr1 : Kd.C k56 w A1 l1.length l1) (hc1 : l1.length ≤ c1) (h : rule_Fold.f k l0 l1 = some (r1, r2)) :
    Calls Try.prog 19 #[.slice A0 l0.length c0, .slice A1 l1.length c1] w fun e w' => ∃ v0_ : Value, e = .returned (.tuple #[v0_, .int .i64 r2]) ∧ Kd.R k45 45 w' w.heap.size (fun _ => True) v0_ r1 ∧ Below w.heap.size w w' := by
  unfold rule_Fold.f at h
  obtain ⟨cb, hck, h⟩ := Option.bind_eq_some_iff.1 h
  have HCK := Lib.hid hck
  have HR0 := Lib.hid hr0
  have HR1 := Lib.hid hr1
  have HC0 := Lib.hid hc0
  have HC1 := Lib.hid hc1
  clear hck hr0 hr1 hc0 hc1
  cases cb with
  | false =>
    rw [if_neg (by simp)] at h
    simp only [Option.some.injEq, Prod.mk.injEq] at h
    obtain ⟨rfl, rfl⟩ := h
    go_enter Try.func19, Try.ntmps19
    go_wp2_with fail
    refine (expr_Check.calls A0 c0 l0 false w HR0.out HC0.out HCK.out).mono ?_
    rintro e w1 ⟨rfl, hb⟩
    go_wp2_with fail
    go_ret2
    exact ⟨_, rfl, Kd.R_nil _ _ _ _ _, hb⟩
  | true =>
    rw [if_pos rfl] at h
    by_cases h9 : l0.length ≤ 9000
    · rw [if_pos h9] at h
      obtain ⟨R, hR, h⟩ := Option.bind_eq_some_iff.1 h
      have HR := Lib.hid hR
      have HH := Lib.hid h
      have hl0 : l0.length ≤ 9223372036854775807 := by omega
      clear hR h
      go_enter Try.func19, Try.ntmps19
      go_wp2_with fail
      refine (expr_Check.calls A0 c0 l0 true w HR0.out HC0.out HCK.out).mono ?_
      rintro e w1 ⟨rfl, hb⟩
      have hb0 : G.But G.No w w1 := G.But.of_below hb
      have HB0 := Lib.hid hb0
      clear hb hb0
      go_wp2_with fail
      go_loopg [6, 16] l0.length (fun gk v6 v16 wr => FoldAt w k l0 l1 (some R) gk v6 v16 wr)
      case atStart => exact ⟨0, [], rfl, Nat.zero_le _, rfl, HB0.out, G.El.own_nil _ _, (fun q h => by cases h), Nat.le_refl _, HR.out⟩
      case round =>
        obtain ⟨i, st, hgk, hi, rfl, hb, hO, hV, hln, hF⟩ := hrel
        have HGK := Lib.hid hgk
        have HB := Lib.hid hb
        have HO := Lib.hid hO
        have HV := Lib.hid hV
        have hbz := hb.size
        by_cases hlt : i < l0.length
        · obtain ⟨ad, hA, k1, k2⟩ := at_T45 HR0.out (i : Int) (by omega) (by omega)
          have hd : l0.drop i = l0[i] :: l0.drop (i + 1) := List.drop_eq_getElem_cons hlt
          have hrd : rd_T45 l0 (i : Int) = l0[i] := by unfold rd_T45; simp [hlt]
          rw [hrd] at k1 k2
          rw [hd] at hF
          obtain ⟨hAr, st0, ls, r, hst, hls, hx, hrest⟩ := foldR_step hF
          cases hA
          have k1' := HB.out.cell_some k1 (fun c => c)
          have k2' := HB.out.cell_some k2 (fun c => c)
          have hlt' : (i : Int) < (l0.length : Int) := by omega
          have dl : decide ((i : Int) < (l0.length : Int)) = true := by simp; omega
          obtain ⟨⟨kk, tx⟩, hq⟩ : ∃ q, l0[i] = q := ⟨_, rfl⟩
          rw [hq] at k1' k2' hAr hls hx
          simp only [Int.toNat_natCast] at k1' k2' hAr hls
          have HAr := Lib.hid hAr
          have HX := Lib.hid hx
          have HRest := Lib.hid hrest
          clear hgk hb hO hV hF k1 k2 hd hrd hq hAr hx hrest
          by_cases hm : arK kk = 0
          · obtain rfl : ls = [] := List.eq_nil_of_length_eq_zero (hls.trans hm)
            rw [List.append_nil] at hst
            subst hst
            rw [hm] at HAr
            have HX2 := Lib.hid (show rule_named.f k kk tx l1 = some r from by
              have := HX.out
              unfold foldX at this
              have hk : ¬ (kk = 6 ∨ kk = 11) ∧ ¬ (kk = 7 ∨ kk = 8 ∨ kk = 9 ∨ kk = 10 ∨ kk = 12 ∨ kk = 13) := by
                unfold arK at hm
                constructor
                · intro h; rw [if_pos h] at hm; cases hm
                · intro h
                  rw [if_neg (by omega), if_pos h] at hm; cases hm
              rw [if_neg (show ¬ kk = 11 by omega), if_neg (show ¬ (kk = 12 ∨ kk = 13) by omega), if_neg (show ¬ (kk = 6 ∨ kk = 7 ∨ kk = 8 ∨ kk = 9 ∨ kk = 10) by omega)] at this
              exact this)
            have hk : ¬ (kk = 6 ∨ kk = 11) ∧ ¬ (kk = 7 ∨ kk = 8 ∨ kk = 9 ∨ kk = 10 ∨ kk = 12 ∨ kk = 13) := by
              unfold arK at hm
              constructor
              · intro h; rw [if_pos h] at hm; cases hm
              · intro h
                rw [if_neg (by omega), if_pos h] at hm; cases hm
            have e6 : (kk == 6) = false := by simp; omega
            have e7 : (kk == 7) = false := by simp; omega
            have e8 : (kk == 8) = false := by simp; omega
            have e9 : (kk == 9) = false := by simp; omega
            have e10 : (kk == 10) = false := by simp; omega
            have e11 : (kk == 11) = false := by simp; omega
            have e12 : (kk == 12) = false := by simp; omega
            have e13 : (kk == 13) = false := by simp; omega
            clear hls hm hk
            have hst9 : st.length ≤ 9000 := by omega
            have hwz : (wr.alloc (.cells #[.int .i64 kk, .string tx] 45)).heap.size = wr.heap.size + 1 := by simp
            have HWZ := Lib.hid hwz
            clear hwz
            rcases HO.out.form with ⟨rfl, rfl⟩ | ⟨gs, c, rfl, hgs, hgsl, hcap, hmx⟩
            · have e0 : ([] : List Pv).length = 0 := rfl
              go_wp2_with fail
              refine (rule_arity.calls k kk (0 : Nat) _ HAr.out).mono ?_
              rintro e w2 ⟨rfl, ⟨⟨n, rfl⟩⟩⟩
              have HB4 := Lib.hid (((HB.out.alloc (.cells #[.int .i64 kk, .string tx] 45)).alloc (.cells #[] 66)).drewN n)
              have HB5 := Lib.hid ((((G.But.refl G.No wr).alloc (.cells #[.int .i64 kk, .string tx] 45)).alloc (.cells #[] 66)).drewN n)
              go_wp2_with (first | (go_at_call 43; refine (rule_named.calls k kk tx A1 c1 l1 r _ (Kd.C_below HR1.out (HB4.out.belowNo)) HC1.out HX2.out).mono ?_; rintro e w5 ⟨v0, rfl, hv, hb5⟩; obtain ⟨A', c', rfl⟩ := Kd.R_slice hv; (have HN := Lib.hid (Vw.ofR (u := .slice none 0 0) hv (fun k hk => by cases hk))); (have HB6 := Lib.hid (show G.But G.No _ w5 from G.But.of_below hb5)); clear hv hb5) | (refine ptE.append1L rfl _ _ rfl rfl w.heap.size (.slice none 0 0) ([] : List Pv) rfl ((HO.out.new (HB5.out.trans HB6.out)).alloc _) w5.heap.size ⟨A', r.length, c', r⟩ #[.slice A' r.length c'] rfl rfl (heap_alloc_new _ _) (by show (([] : List Pv).length + 1) * (24 + 1) ≤ _; simp; try omega) (Nat.le_trans (HB4.out.trans HB6.out).size (by simp)) ?_; intro g6 c6 w6 hown hgrow hat; (have HQ := Lib.hid (fold_close ((HB4.out.trans HB6.out).alloc _) ((HO.out.new (HB5.out.trans HB6.out)).alloc _) (fun q hq => (HV.out q hq).new ((HB5.out.trans HB6.out).alloc _)) (HN.out.new ((G.But.refl G.No _).alloc _)) hown hgrow hat)); clear hown hgrow hat))
              go_roundg (l0.length - (i + 1))
              case measure => rw [HGK.out]; omega
              case rel => exact ⟨i + 1, ([] : List Pv) ++ [⟨A', r.length, c', r⟩], rfl, by omega, by go_num, HQ.out.1, HQ.out.2.1, HQ.out.2.2, by simp; try omega, by rw [List.map_append]; exact HRest.out⟩
            · by_cases hcn : c = st.length
              · subst hcn
                go_wp2_with fail
                refine (rule_arity.calls k kk (0 : Nat) _ HAr.out).mono ?_
                rintro e w2 ⟨rfl, ⟨⟨n, rfl⟩⟩⟩
                have HB4 := Lib.hid (((HB.out.alloc (.cells #[.int .i64 kk, .string tx] 45)).alloc (.cells #[] 66)).drewN n)
                have HB5 := Lib.hid ((((G.But.refl G.No wr).alloc (.cells #[.int .i64 kk, .string tx] 45)).alloc (.cells #[] 66)).drewN n)
                go_wp2_with (first | (go_at_call 43; refine (rule_named.calls k kk tx A1 c1 l1 r _ (Kd.C_below HR1.out (HB4.out.belowNo)) HC1.out HX2.out).mono ?_; rintro e w5 ⟨v0, rfl, hv, hb5⟩; obtain ⟨A', c', rfl⟩ := Kd.R_slice hv; (have HN := Lib.hid (Vw.ofR (u := (.slice (some ⟨gs, 0, none⟩) st.length st.length)) hv (fun k hk => by injection hk with hk; subst hk; exact Nat.lt_of_lt_of_le hgsl (by simp; try omega)))); (have HB6 := Lib.hid (show G.But G.No _ w5 from G.But.of_below hb5)); clear hv hb5) | (refine ptE.append1L rfl _ _ rfl rfl w.heap.size (.slice (some ⟨gs, 0, none⟩) st.length st.length) st rfl ((HO.out.new (HB5.out.trans HB6.out)).alloc _) w5.heap.size ⟨A', r.length, c', r⟩ #[.slice A' r.length c'] rfl rfl (heap_alloc_new _ _) (by show (st.length + 1) * (24 + 1) ≤ _; simp; try omega) (Nat.le_trans (HB4.out.trans HB6.out).size (by simp)) ?_; intro g6 c6 w6 hown hgrow hat; (have HQ := Lib.hid (fold_close ((HB4.out.trans HB6.out).alloc _) ((HO.out.new (HB5.out.trans HB6.out)).alloc _) (fun q hq => (HV.out q hq).new ((HB5.out.trans HB6.out).alloc _)) (HN.out.new ((G.But.refl G.No _).alloc _)) hown hgrow hat)); clear hown hgrow hat))
                go_roundg (l0.length - (i + 1))
                case measure => rw [HGK.out]; omega
                case rel => exact ⟨i + 1, st ++ [⟨A', r.length, c', r⟩], rfl, by omega, by go_num, HQ.out.1, HQ.out.2.1, HQ.out.2.2, by simp; try omega, by rw [List.map_append]; exact HRest.out⟩
              · skip
                go_wp2_with fail
                refine (rule_arity.calls k kk (0 : Nat) _ HAr.out).mono ?_
                rintro e w2 ⟨rfl, ⟨⟨n, rfl⟩⟩⟩
                have HB4 := Lib.hid (((HB.out.alloc (.cells #[.int .i64 kk, .string tx] 45)).alloc (.cells #[] 66)).drewN n)
                have HB5 := Lib.hid ((((G.But.refl G.No wr).alloc (.cells #[.int .i64 kk, .string tx] 45)).alloc (.cells #[] 66)).drewN n)
                go_wp2_with (first | (go_at_call 43; refine (rule_named.calls k kk tx A1 c1 l1 r _ (Kd.C_below HR1.out (HB4.out.belowNo)) HC1.out HX2.out).mono ?_; rintro e w5 ⟨v0, rfl, hv, hb5⟩; obtain ⟨A', c', rfl⟩ := Kd.R_slice hv; (have HN := Lib.hid (Vw.ofR (u := (.slice (some ⟨gs, 0, none⟩) st.length c)) hv (fun k hk => by injection hk with hk; subst hk; exact Nat.lt_of_lt_of_le hgsl (by simp; try omega)))); (have HB6 := Lib.hid (show G.But G.No _ w5 from G.But.of_below hb5)); clear hv hb5) | (refine ptE.append1L rfl _ _ rfl rfl w.heap.size (.slice (some ⟨gs, 0, none⟩) st.length c) st rfl ((HO.out.new (HB5.out.trans HB6.out)).alloc _) w5.heap.size ⟨A', r.length, c', r⟩ #[.slice A' r.length c'] rfl rfl (heap_alloc_new _ _) (by show (st.length + 1) * (24 + 1) ≤ _; simp; try omega) (Nat.le_trans (HB4.out.trans HB6.out).size (by simp)) ?_; intro g6 c6 w6 hown hgrow hat; (have HQ := Lib.hid (fold_close ((HB4.out.trans HB6.out).alloc _) ((HO.out.new (HB5.out.trans HB6.out)).alloc _) (fun q hq => (HV.out q hq).new ((HB5.out.trans HB6.out).alloc _)) (HN.out.new ((G.But.refl G.No _).alloc _)) hown hgrow hat)); clear hown hgrow hat))
                go_roundg (l0.length - (i + 1))
                case measure => rw [HGK.out]; omega
                case rel => exact ⟨i + 1, st ++ [⟨A', r.length, c', r⟩], rfl, by omega, by go_num, HQ.out.1, HQ.out.2.1, HQ.out.2.2, by simp; try omega, by rw [List.map_append]; exact HRest.out⟩
          · rcases arK_pos hm with rfl | rfl | rfl | rfl | rfl | rfl | rfl | rfl
            · obtain ⟨⟨pA, pn, pc, pl⟩, rfl⟩ := List.length_eq_one_iff.1 (show ls.length = 1 from hls)
              obtain rfl : pn = pl.length := (HV.out ⟨pA, pn, pc, pl⟩ (by rw [hst]; simp)).len.1
              subst hst
              clear hls hm
              obtain ⟨gs, c, rfl, hgs, hgsl, hcap, hmx⟩ := HO.out.lit (by simp)
              have hsrc : ∀ j u, (ptE.cells [⟨pA, pl.length, pc, pl⟩])[j]? = some u → wr.cell? ((⟨gs, st0.length, none⟩ : Addr).add j) = some u := by
                have := HO.out.part
                rw [show st0.length * ptE.sz = st0.length from Nat.mul_one _] at this
                exact this
              have HSrc := Lib.hid hsrc
              have HSh := Lib.hid HO.out.shrink
              rw [List.length_append, show ([⟨pA, pl.length, pc, pl⟩] : List Pv).length = 1 from rfl] at hcap
              have hst0 : st0.length ≤ 9000 := by rw [List.length_append] at hln; omega
              have hln2 : st0.length ≤ i := by rw [List.length_append] at hln; omega
              have hgc : st0.length ≤ c := by omega
              have hne : ¬ c = st0.length := by omega
              have hwz : (wr.alloc (.cells #[.int .i64 6, .string tx] 45)).heap.size = wr.heap.size + 1 := by simp
              have HWZ := Lib.hid hwz
              have HV1 := Lib.hid (show ∀ q ∈ st0, Vw wr (.slice (some ⟨gs, 0, none⟩) st0.length c) q from fun q hq => (HV.out q (List.mem_append_left _ hq)).re rfl)
              have HVp := Lib.hid (show Vw wr (.slice (some ⟨gs, 0, none⟩) st0.length c) ⟨pA, pl.length, pc, pl⟩ from (HV.out _ (by simp)).re rfl)
              clear hsrc hwz hcap hln
              go_wp2_with fail
              refine (rule_arity.calls k 6 1 _ HAr.out).mono ?_
              rintro e w2 ⟨rfl, ⟨⟨n, rfl⟩⟩⟩
              go_wp2_with (refine ptE.appendL rfl _ _ rfl rfl (wr.heap.size + 1) _ [] rfl ((G.El.Own.fresh' (wr.alloc (.cells #[.int .i64 6, .string tx] 45)) _ HWZ.out (Nat.le_refl _)).drewN n) ⟨gs, st0.length, none⟩ 1 (c - st0.length) [⟨pA, pl.length, pc, pl⟩] rfl (by decide) rfl (fun j u hj => ((((G.But.refl G.No wr).alloc _).alloc _).drewN n).cell_some (HSrc.out j u hj) (fun c => c)) (by decide) (by simp) ?_; intro g2 c2 w3 hown hgrow hat; (have hb3 : G.But G.No (wr.alloc (.cells #[.int .i64 6, .string tx] 45)) w3 := G.El.Own.grown (((G.But.refl G.No _).alloc _).drewN n) ((G.El.Own.fresh' (E := ptE) (wr.alloc (.cells #[.int .i64 6, .string tx] 45)) _ HWZ.out (Nat.le_refl _)).drewN n) hgrow (Nat.le_of_eq HWZ.out)); (have HL := Lib.hid (show ptE.Own w3 (wr.heap.size + 1) (.slice (some ⟨g2, 0, none⟩) 1 c2) [⟨pA, pl.length, pc, pl⟩] from hown)); (have HB3 := Lib.hid hb3); (have hx0 : w3.cell? ⟨wr.heap.size, 0, none⟩ = some (.int .i64 6) := hb3.cell_some (p := ⟨wr.heap.size, 0, none⟩) ((cell_of_row _ _ 0 _ _ _ (heap_alloc_new wr _)).trans rfl) (fun c => c)); (have hx1 : w3.cell? ⟨wr.heap.size, 1, none⟩ = some (.string tx) := hb3.cell_some (p := ⟨wr.heap.size, 1, none⟩) ((cell_of_row _ _ 1 _ _ _ (heap_alloc_new wr _)).trans rfl) (fun c => c)); (have hcp : w3.cell? ⟨g2, 0, none⟩ = some (.slice pA pl.length pc) := HL.out.cell 0 _ rfl 0 _ rfl); clear hgrow hown hat hb3)
              have HB4 := Lib.hid ((HB.out.alloc (.cells #[.int .i64 6, .string tx] 45)).trans HB3.out)
              have HB5 := Lib.hid (((G.But.refl G.No wr).alloc (.cells #[.int .i64 6, .string tx] 45)).trans HB3.out)
              have hgs3 : gs < w3.heap.size := Nat.lt_of_lt_of_le hgsl HB5.out.size
              have HX2 := Lib.hid (show rule_texts.f k 6 tx ([pl].map S66.mk) = some r from HX.out)
              have HPC := Lib.hid (show Kd.C k66 w3 (some ⟨g2, 0, none⟩) ([pl].map S66.mk).length ([pl].map S66.mk) from pvC (sv := .slice (some ⟨gs, 0, none⟩) st0.length c) HL.out (by
                intro q hq
                simp only [List.mem_cons, List.not_mem_nil, or_false] at hq
                subst hq; exact HVp.out.new HB5.out) (by simp))
              have HCm := Lib.hid (show ([pl].map S66.mk).length ≤ c2 from HL.out.cap)
              go_wp2_with (first | (go_at_call 42; refine (rule_texts.calls k 6 tx (some ⟨g2, 0, none⟩) c2 ([pl].map S66.mk) r _ (HPC.out) HCm.out HX2.out).mono ?_; rintro e w5 ⟨v0, rfl, hv, hb5⟩; obtain ⟨A', c', rfl⟩ := Kd.R_slice hv; (have HN := Lib.hid (Vw.ofR (u := .slice (some ⟨gs, 0, none⟩) st0.length c) hv (fun k hk => by injection hk with hk; subst hk; exact hgs3))); (have HB6 := Lib.hid (show G.But G.No w3 w5 from G.But.of_below hb5)); clear hv hb5) | (refine ptE.append1L rfl _ _ rfl rfl w.heap.size (.slice (some ⟨gs, 0, none⟩) st0.length c) st0 rfl ((HSh.out.new (HB5.out.trans HB6.out)).alloc _) w5.heap.size ⟨A', r.length, c', r⟩ #[.slice A' r.length c'] rfl rfl (heap_alloc_new _ _) (by show (st0.length + 1) * (24 + 1) ≤ _; omega) (Nat.le_trans (HB4.out.trans HB6.out).size (by simp)) ?_; intro g6 c6 w6 hown hgrow hat; (have HQ := Lib.hid (fold_close ((HB4.out.trans HB6.out).alloc _) ((HSh.out.new (HB5.out.trans HB6.out)).alloc _) (fun q hq => (HV1.out q hq).new ((HB5.out.trans HB6.out).alloc _)) (HN.out.new ((G.But.refl G.No _).alloc _)) hown hgrow hat)); clear hown hgrow hat))
              go_roundg (l0.length - (i + 1))
              case measure => rw [HGK.out]; omega
              case rel => exact ⟨i + 1, st0 ++ [⟨A', r.length, c', r⟩], rfl, by omega, by go_num, HQ.out.1, HQ.out.2.1, HQ.out.2.2, by simp; omega, by rw [List.map_append]; exact HRest.out⟩
            · obtain ⟨⟨pA, pn, pc, pl⟩, ⟨qA, qn, qc, ql⟩, rfl⟩ := len_two (show ls.length = 2 from hls)
              obtain rfl : pn = pl.length := (HV.out ⟨pA, pn, pc, pl⟩ (by rw [hst]; simp)).len.1
              obtain rfl : qn = ql.length := (HV.out ⟨qA, qn, qc, ql⟩ (by rw [hst]; simp)).len.1
              subst hst
              clear hls hm
              obtain ⟨gs, c, rfl, hgs, hgsl, hcap, hmx⟩ := HO.out.lit (by simp)
              have hsrc : ∀ j u, (ptE.cells [⟨pA, pl.length, pc, pl⟩, ⟨qA, ql.length, qc, ql⟩])[j]? = some u → wr.cell? ((⟨gs, st0.length, none⟩ : Addr).add j) = some u := by
                have := HO.out.part
                rw [show st0.length * ptE.sz = st0.length from Nat.mul_one _] at this
                exact this
              have HSrc := Lib.hid hsrc
              have HSh := Lib.hid HO.out.shrink
              rw [List.length_append, show ([⟨pA, pl.length, pc, pl⟩, ⟨qA, ql.length, qc, ql⟩] : List Pv).length = 2 from rfl] at hcap
              have hst0 : st0.length ≤ 9000 := by rw [List.length_append] at hln; omega
              have hln2 : st0.length ≤ i := by rw [List.length_append] at hln; omega
              have hgc : st0.length ≤ c := by omega
              have hne : ¬ c = st0.length := by omega
              have hwz : (wr.alloc (.cells #[.int .i64 7, .string tx] 45)).heap.size = wr.heap.size + 1 := by simp
              have HWZ := Lib.hid hwz
              have HV1 := Lib.hid (show ∀ q ∈ st0, Vw wr (.slice (some ⟨gs, 0, none⟩) st0.length c) q from fun q hq => (HV.out q (List.mem_append_left _ hq)).re rfl)
              have HVp := Lib.hid (show Vw wr (.slice (some ⟨gs, 0, none⟩) st0.length c) ⟨pA, pl.length, pc, pl⟩ from (HV.out _ (by simp)).re rfl)
              have HVq := Lib.hid (show Vw wr (.slice (some ⟨gs, 0, none⟩) st0.length c) ⟨qA, ql.length, qc, ql⟩ from (HV.out _ (by simp)).re rfl)
              clear hsrc hwz hcap hln
              go_wp2_with fail
              refine (rule_arity.calls k 7 2 _ HAr.out).mono ?_
              rintro e w2 ⟨rfl, ⟨⟨n, rfl⟩⟩⟩
              go_wp2_with (refine ptE.appendL rfl _ _ rfl rfl (wr.heap.size + 1) _ [] rfl ((G.El.Own.fresh' (wr.alloc (.cells #[.int .i64 7, .string tx] 45)) _ HWZ.out (Nat.le_refl _)).drewN n) ⟨gs, st0.length, none⟩ 2 (c - st0.length) [⟨pA, pl.length, pc, pl⟩, ⟨qA, ql.length, qc, ql⟩] rfl (by decide) rfl (fun j u hj => ((((G.But.refl G.No wr).alloc _).alloc _).drewN n).cell_some (HSrc.out j u hj) (fun c => c)) (by decide) (by simp) ?_; intro g2 c2 w3 hown hgrow hat; (have hb3 : G.But G.No (wr.alloc (.cells #[.int .i64 7, .string tx] 45)) w3 := G.El.Own.grown (((G.But.refl G.No _).alloc _).drewN n) ((G.El.Own.fresh' (E := ptE) (wr.alloc (.cells #[.int .i64 7, .string tx] 45)) _ HWZ.out (Nat.le_refl _)).drewN n) hgrow (Nat.le_of_eq HWZ.out)); (have HL := Lib.hid (show ptE.Own w3 (wr.heap.size + 1) (.slice (some ⟨g2, 0, none⟩) 2 c2) [⟨pA, pl.length, pc, pl⟩, ⟨qA, ql.length, qc, ql⟩] from hown)); (have HB3 := Lib.hid hb3); (have hx0 : w3.cell? ⟨wr.heap.size, 0, none⟩ = some (.int .i64 7) := hb3.cell_some (p := ⟨wr.heap.size, 0, none⟩) ((cell_of_row _ _ 0 _ _ _ (heap_alloc_new wr _)).trans rfl) (fun c => c)); (have hx1 : w3.cell? ⟨wr.heap.size, 1, none⟩ = some (.string tx) := hb3.cell_some (p := ⟨wr.heap.size, 1, none⟩) ((cell_of_row _ _ 1 _ _ _ (heap_alloc_new wr _)).trans rfl) (fun c => c)); (have hcp : w3.cell? ⟨g2, 0, none⟩ = some (.slice pA pl.length pc) := HL.out.cell 0 _ rfl 0 _ rfl); (have hcq : w3.cell? ⟨g2, 1, none⟩ = some (.slice qA ql.length qc) := HL.out.cell 1 _ rfl 0 _ rfl); clear hgrow hown hat hb3)
              have HB4 := Lib.hid ((HB.out.alloc (.cells #[.int .i64 7, .string tx] 45)).trans HB3.out)
              have HB5 := Lib.hid (((G.But.refl G.No wr).alloc (.cells #[.int .i64 7, .string tx] 45)).trans HB3.out)
              have hgs3 : gs < w3.heap.size := Nat.lt_of_lt_of_le hgsl HB5.out.size
              have HX2 := Lib.hid (show rule_texts.f k 7 tx ([pl, ql].map S66.mk) = some r from HX.out)
              have HPC := Lib.hid (show Kd.C k66 w3 (some ⟨g2, 0, none⟩) ([pl, ql].map S66.mk).length ([pl, ql].map S66.mk) from pvC (sv := .slice (some ⟨gs, 0, none⟩) st0.length c) HL.out (by
                intro q hq
                simp only [List.mem_cons, List.not_mem_nil, or_false] at hq
                rcases hq with rfl | rfl
                · exact HVp.out.new HB5.out
                · exact HVq.out.new HB5.out) (by simp))
              have HCm := Lib.hid (show ([pl, ql].map S66.mk).length ≤ c2 from HL.out.cap)
              go_wp2_with (first | (go_at_call 42; refine (rule_texts.calls k 7 tx (some ⟨g2, 0, none⟩) c2 ([pl, ql].map S66.mk) r _ (HPC.out) HCm.out HX2.out).mono ?_; rintro e w5 ⟨v0, rfl, hv, hb5⟩; obtain ⟨A', c', rfl⟩ := Kd.R_slice hv; (have HN := Lib.hid (Vw.ofR (u := .slice (some ⟨gs, 0, none⟩) st0.length c) hv (fun k hk => by injection hk with hk; subst hk; exact hgs3))); (have HB6 := Lib.hid (show G.But G.No w3 w5 from G.But.of_below hb5)); clear hv hb5) | (refine ptE.append1L rfl _ _ rfl rfl w.heap.size (.slice (some ⟨gs, 0, none⟩) st0.length c) st0 rfl ((HSh.out.new (HB5.out.trans HB6.out)).alloc _) w5.heap.size ⟨A', r.length, c', r⟩ #[.slice A' r.length c'] rfl rfl (heap_alloc_new _ _) (by show (st0.length + 1) * (24 + 1) ≤ _; omega) (Nat.le_trans (HB4.out.trans HB6.out).size (by simp)) ?_; intro g6 c6 w6 hown hgrow hat; (have HQ := Lib.hid (fold_close ((HB4.out.trans HB6.out).alloc _) ((HSh.out.new (HB5.out.trans HB6.out)).alloc _) (fun q hq => (HV1.out q hq).new ((HB5.out.trans HB6.out).alloc _)) (HN.out.new ((G.But.refl G.No _).alloc _)) hown hgrow hat)); clear hown hgrow hat))
              go_roundg (l0.length - (i + 1))
              case measure => rw [HGK.out]; omega
              case rel => exact ⟨i + 1, st0 ++ [⟨A', r.length, c', r⟩], rfl, by omega, by go_num, HQ.out.1, HQ.out.2.1, HQ.out.2.2, by simp; omega, by rw [List.map_append]; exact HRest.out⟩
            · obtain ⟨⟨pA, pn, pc, pl⟩, ⟨qA, qn, qc, ql⟩, rfl⟩ := len_two (show ls.length = 2 from hls)
              obtain rfl : pn = pl.length := (HV.out ⟨pA, pn, pc, pl⟩ (by rw [hst]; simp)).len.1
              obtain rfl : qn = ql.length := (HV.out ⟨qA, qn, qc, ql⟩ (by rw [hst]; simp)).len.1
              subst hst
              clear hls hm
              obtain ⟨gs, c, rfl, hgs, hgsl, hcap, hmx⟩ := HO.out.lit (by simp)
              have hsrc : ∀ j u, (ptE.cells [⟨pA, pl.length, pc, pl⟩, ⟨qA, ql.length, qc, ql⟩])[j]? = some u → wr.cell? ((⟨gs, st0.length, none⟩ : Addr).add j) = some u := by
                have := HO.out.part
                rw [show st0.length * ptE.sz = st0.length from Nat.mul_one _] at this
                exact this
              have HSrc := Lib.hid hsrc
              have HSh := Lib.hid HO.out.shrink
              rw [List.length_append, show ([⟨pA, pl.length, pc, pl⟩, ⟨qA, ql.length, qc, ql⟩] : List Pv).length = 2 from rfl] at hcap
              have hst0 : st0.length ≤ 9000 := by rw [List.length_append] at hln; omega
              have hln2 : st0.length ≤ i := by rw [List.length_append] at hln; omega
              have hgc : st0.length ≤ c := by omega
              have hne : ¬ c = st0.length := by omega
              have hwz : (wr.alloc (.cells #[.int .i64 8, .string tx] 45)).heap.size = wr.heap.size + 1 := by simp
              have HWZ := Lib.hid hwz
              have HV1 := Lib.hid (show ∀ q ∈ st0, Vw wr (.slice (some ⟨gs, 0, none⟩) st0.length c) q from fun q hq => (HV.out q (List.mem_append_left _ hq)).re rfl)
              have HVp := Lib.hid (show Vw wr (.slice (some ⟨gs, 0, none⟩) st0.length c) ⟨pA, pl.length, pc, pl⟩ from (HV.out _ (by simp)).re rfl)
              have HVq := Lib.hid (show Vw wr (.slice (some ⟨gs, 0, none⟩) st0.length c) ⟨qA, ql.length, qc, ql⟩ from (HV.out _ (by simp)).re rfl)
              clear hsrc hwz hcap hln
              go_wp2_with fail
              refine (rule_arity.calls k 8 2 _ HAr.out).mono ?_
              rintro e w2 ⟨rfl, ⟨⟨n, rfl⟩⟩⟩
              go_wp2_with (refine ptE.appendL rfl _ _ rfl rfl (wr.heap.size + 1) _ [] rfl ((G.El.Own.fresh' (wr.alloc (.cells #[.int .i64 8, .string tx] 45)) _ HWZ.out (Nat.le_refl _)).drewN n) ⟨gs, st0.length, none⟩ 2 (c - st0.length) [⟨pA, pl.length, pc, pl⟩, ⟨qA, ql.length, qc, ql⟩] rfl (by decide) rfl (fun j u hj => ((((G.But.refl G.No wr).alloc _).alloc _).drewN n).cell_some (HSrc.out j u hj) (fun c => c)) (by decide) (by simp) ?_; intro g2 c2 w3 hown hgrow hat; (have hb3 : G.But G.No (wr.alloc (.cells #[.int .i64 8, .string tx] 45)) w3 := G.El.Own.grown (((G.But.refl G.No _).alloc _).drewN n) ((G.El.Own.fresh' (E := ptE) (wr.alloc (.cells #[.int .i64 8, .string tx] 45)) _ HWZ.out (Nat.le_refl _)).drewN n) hgrow (Nat.le_of_eq HWZ.out)); (have HL := Lib.hid (show ptE.Own w3 (wr.heap.size + 1) (.slice (some ⟨g2, 0, none⟩) 2 c2) [⟨pA, pl.length, pc, pl⟩, ⟨qA, ql.length, qc, ql⟩] from hown)); (have HB3 := Lib.hid hb3); (have hx0 : w3.cell? ⟨wr.heap.size, 0, none⟩ = some (.int .i64 8) := hb3.cell_some (p := ⟨wr.heap.size, 0, none⟩) ((cell_of_row _ _ 0 _ _ _ (heap_alloc_new wr _)).trans rfl) (fun c => c)); (have hx1 : w3.cell? ⟨wr.heap.size, 1, none⟩ = some (.string tx) := hb3.cell_some (p := ⟨wr.heap.size, 1, none⟩) ((cell_of_row _ _ 1 _ _ _ (heap_alloc_new wr _)).trans rfl) (fun c => c)); (have hcp : w3.cell? ⟨g2, 0, none⟩ = some (.slice pA pl.length pc) := HL.out.cell 0 _ rfl 0 _ rfl); (have hcq : w3.cell? ⟨g2, 1, none⟩ = some (.slice qA ql.length qc) := HL.out.cell 1 _ rfl 0 _ rfl); clear hgrow hown hat hb3)
              have HB4 := Lib.hid ((HB.out.alloc (.cells #[.int .i64 8, .string tx] 45)).trans HB3.out)
              have HB5 := Lib.hid (((G.But.refl G.No wr).alloc (.cells #[.int .i64 8, .string tx] 45)).trans HB3.out)
              have hgs3 : gs < w3.heap.size := Nat.lt_of_lt_of_le hgsl HB5.out.size
              have HX2 := Lib.hid (show rule_texts.f k 8 tx ([pl, ql].map S66.mk) = some r from HX.out)
              have HPC := Lib.hid (show Kd.C k66 w3 (some ⟨g2, 0, none⟩) ([pl, ql].map S66.mk).length ([pl, ql].map S66.mk) from pvC (sv := .slice (some ⟨gs, 0, none⟩) st0.length c) HL.out (by
                intro q hq
                simp only [List.mem_cons, List.not_mem_nil, or_false] at hq
                rcases hq with rfl | rfl
                · exact HVp.out.new HB5.out
                · exact HVq.out.new HB5.out) (by simp))
              have HCm := Lib.hid (show ([pl, ql].map S66.mk).length ≤ c2 from HL.out.cap)
              go_wp2_with (first | (go_at_call 42; refine (rule_texts.calls k 8 tx (some ⟨g2, 0, none⟩) c2 ([pl, ql].map S66.mk) r _ (HPC.out) HCm.out HX2.out).mono ?_; rintro e w5 ⟨v0, rfl, hv, hb5⟩; obtain ⟨A', c', rfl⟩ := Kd.R_slice hv; (have HN := Lib.hid (Vw.ofR (u := .slice (some ⟨gs, 0, none⟩) st0.length c) hv (fun k hk => by injection hk with hk; subst hk; exact hgs3))); (have HB6 := Lib.hid (show G.But G.No w3 w5 from G.But.of_below hb5)); clear hv hb5) | (refine ptE.append1L rfl _ _ rfl rfl w.heap.size (.slice (some ⟨gs, 0, none⟩) st0.length c) st0 rfl ((HSh.out.new (HB5.out.trans HB6.out)).alloc _) w5.heap.size ⟨A', r.length, c', r⟩ #[.slice A' r.length c'] rfl rfl (heap_alloc_new _ _) (by show (st0.length + 1) * (24 + 1) ≤ _; omega) (Nat.le_trans (HB4.out.trans HB6.out).size (by simp)) ?_; intro g6 c6 w6 hown hgrow hat; (have HQ := Lib.hid (fold_close ((HB4.out.trans HB6.out).alloc _) ((HSh.out.new (HB5.out.trans HB6.out)).alloc _) (fun q hq => (HV1.out q hq).new ((HB5.out.trans HB6.out).alloc _)) (HN.out.new ((G.But.refl G.No _).alloc _)) hown hgrow hat)); clear hown hgrow hat))
              go_roundg (l0.length - (i + 1))
              case measure => rw [HGK.out]; omega
              case rel => exact ⟨i + 1, st0 ++ [⟨A', r.length, c', r⟩], rfl, by omega, by go_num, HQ.out.1, HQ.out.2.1, HQ.out.2.2, by simp; omega, by rw [List.map_append]; exact HRest.out⟩
            · obtain ⟨⟨pA, pn, pc, pl⟩, ⟨qA, qn, qc, ql⟩, rfl⟩ := len_two (show ls.length = 2 from hls)
              obtain rfl : pn = pl.length := (HV.out ⟨pA, pn, pc, pl⟩ (by rw [hst]; simp)).len.1
              obtain rfl : qn = ql.length := (HV.out ⟨qA, qn, qc, ql⟩ (by rw [hst]; simp)).len.1
              subst hst
              clear hls hm
              obtain ⟨gs, c, rfl, hgs, hgsl, hcap, hmx⟩ := HO.out.lit (by simp)
              have hsrc : ∀ j u, (ptE.cells [⟨pA, pl.length, pc, pl⟩, ⟨qA, ql.length, qc, ql⟩])[j]? = some u → wr.cell? ((⟨gs, st0.length, none⟩ : Addr).add j) = some u := by
                have := HO.out.part
                rw [show st0.length * ptE.sz = st0.length from Nat.mul_one _] at this
                exact this
              have HSrc := Lib.hid hsrc
              have HSh := Lib.hid HO.out.shrink
              rw [List.length_append, show ([⟨pA, pl.length, pc, pl⟩, ⟨qA, ql.length, qc, ql⟩] : List Pv).length = 2 from rfl] at hcap
              have hst0 : st0.length ≤ 9000 := by rw [List.length_append] at hln; omega
              have hln2 : st0.length ≤ i := by rw [List.length_append] at hln; omega
              have hgc : st0.length ≤ c := by omega
              have hne : ¬ c = st0.length := by omega
              have hwz : (wr.alloc (.cells #[.int .i64 9, .string tx] 45)).heap.size = wr.heap.size + 1 := by simp
              have HWZ := Lib.hid hwz
              have HV1 := Lib.hid (show ∀ q ∈ st0, Vw wr (.slice (some ⟨gs, 0, none⟩) st0.length c) q from fun q hq => (HV.out q (List.mem_append_left _ hq)).re rfl)
              have HVp := Lib.hid (show Vw wr (.slice (some ⟨gs, 0, none⟩) st0.length c) ⟨pA, pl.length, pc, pl⟩ from (HV.out _ (by simp)).re rfl)
              have HVq := Lib.hid (show Vw wr (.slice (some ⟨gs, 0, none⟩) st0.length c) ⟨qA, ql.length, qc, ql⟩ from (HV.out _ (by simp)).re rfl)
              clear hsrc hwz hcap hln
              go_wp2_with fail
              refine (rule_arity.calls k 9 2 _ HAr.out).mono ?_
              rintro e w2 ⟨rfl, ⟨⟨n, rfl⟩⟩⟩
              go_wp2_with (refine ptE.appendL rfl _ _ rfl rfl (wr.heap.size + 1) _ [] rfl ((G.El.Own.fresh' (wr.alloc (.cells #[.int .i64 9, .string tx] 45)) _ HWZ.out (Nat.le_refl _)).drewN n) ⟨gs, st0.length, none⟩ 2 (c - st0.length) [⟨pA, pl.length, pc, pl⟩, ⟨qA, ql.length, qc, ql⟩] rfl (by decide) rfl (fun j u hj => ((((G.But.refl G.No wr).alloc _).alloc _).drewN n).cell_some (HSrc.out j u hj) (fun c => c)) (by decide) (by simp) ?_; intro g2 c2 w3 hown hgrow hat; (have hb3 : G.But G.No (wr.alloc (.cells #[.int .i64 9, .string tx] 45)) w3 := G.El.Own.grown (((G.But.refl G.No _).alloc _).drewN n) ((G.El.Own.fresh' (E := ptE) (wr.alloc (.cells #[.int .i64 9, .string tx] 45)) _ HWZ.out (Nat.le_refl _)).drewN n) hgrow (Nat.le_of_eq HWZ.out)); (have HL := Lib.hid (show ptE.Own w3 (wr.heap.size + 1) (.slice (some ⟨g2, 0, none⟩) 2 c2) [⟨pA, pl.length, pc, pl⟩, ⟨qA, ql.length, qc, ql⟩] from hown)); (have HB3 := Lib.hid hb3); (have hx0 : w3.cell? ⟨wr.heap.size, 0, none⟩ = some (.int .i64 9) := hb3.cell_some (p := ⟨wr.heap.size, 0, none⟩) ((cell_of_row _ _ 0 _ _ _ (heap_alloc_new wr _)).trans rfl) (fun c => c)); (have hx1 : w3.cell? ⟨wr.heap.size, 1, none⟩ = some (.string tx) := hb3.cell_some (p := ⟨wr.heap.size, 1, none⟩) ((cell_of_row _ _ 1 _ _ _ (heap_alloc_new wr _)).trans rfl) (fun c => c)); (have hcp : w3.cell? ⟨g2, 0, none⟩ = some (.slice pA pl.length pc) := HL.out.cell 0 _ rfl 0 _ rfl); (have hcq : w3.cell? ⟨g2, 1, none⟩ = some (.slice qA ql.length qc) := HL.out.cell 1 _ rfl 0 _ rfl); clear hgrow hown hat hb3)
              have HB4 := Lib.hid ((HB.out.alloc (.cells #[.int .i64 9, .string tx] 45)).trans HB3.out)
              have HB5 := Lib.hid (((G.But.refl G.No wr).alloc (.cells #[.int .i64 9, .string tx] 45)).trans HB3.out)
              have hgs3 : gs < w3.heap.size := Nat.lt_of_lt_of_le hgsl HB5.out.size
              have HX2 := Lib.hid (show rule_texts.f k 9 tx ([pl, ql].map S66.mk) = some r from HX.out)
              have HPC := Lib.hid (show Kd.C k66 w3 (some ⟨g2, 0, none⟩) ([pl, ql].map S66.mk).length ([pl, ql].map S66.mk) from pvC (sv := .slice (some ⟨gs, 0, none⟩) st0.length c) HL.out (by
                intro q hq
                simp only [List.mem_cons, List.not_mem_nil, or_false] at hq
                rcases hq with rfl | rfl
                · exact HVp.out.new HB5.out
                · exact HVq.out.new HB5.out) (by simp))
              have HCm := Lib.hid (show ([pl, ql].map S66.mk).length ≤ c2 from HL.out.cap)
              go_wp2_with (first | (go_at_call 42; refine (rule_texts.calls k 9 tx (some ⟨g2, 0, none⟩) c2 ([pl, ql].map S66.mk) r _ (HPC.out) HCm.out HX2.out).mono ?_; rintro e w5 ⟨v0, rfl, hv, hb5⟩; obtain ⟨A', c', rfl⟩ := Kd.R_slice hv; (have HN := Lib.hid (Vw.ofR (u := .slice (some ⟨gs, 0, none⟩) st0.length c) hv (fun k hk => by injection hk with hk; subst hk; exact hgs3))); (have HB6 := Lib.hid (show G.But G.No w3 w5 from G.But.of_below hb5)); clear hv hb5) | (refine ptE.append1L rfl _ _ rfl rfl w.heap.size (.slice (some ⟨gs, 0, none⟩) st0.length c) st0 rfl ((HSh.out.new (HB5.out.trans HB6.out)).alloc _) w5.heap.size ⟨A', r.length, c', r⟩ #[.slice A' r.length c'] rfl rfl (heap_alloc_new _ _) (by show (st0.length + 1) * (24 + 1) ≤ _; omega) (Nat.le_trans (HB4.out.trans HB6.out).size (by simp)) ?_; intro g6 c6 w6 hown hgrow hat; (have HQ := Lib.hid (fold_close ((HB4.out.trans HB6.out).alloc _) ((HSh.out.new (HB5.out.trans HB6.out)).alloc _) (fun q hq => (HV1.out q hq).new ((HB5.out.trans HB6.out).alloc _)) (HN.out.new ((G.But.refl G.No _).alloc _)) hown hgrow hat)); clear hown hgrow hat))
              go_roundg (l0.length - (i + 1))
              case measure => rw [HGK.out]; omega
              case rel => exact ⟨i + 1, st0 ++ [⟨A', r.length, c', r⟩], rfl, by omega, by go_num, HQ.out.1, HQ.out.2.1, HQ.out.2.2, by simp; omega, by rw [List.map_append]; exact HRest.out⟩
            · obtain ⟨⟨pA, pn, pc, pl⟩, ⟨qA, qn, qc, ql⟩, rfl⟩ := len_two (show ls.length = 2 from hls)
              obtain rfl : pn = pl.length := (HV.out ⟨pA, pn, pc, pl⟩ (by rw [hst]; simp)).len.1
              obtain rfl : qn = ql.length := (HV.out ⟨qA, qn, qc, ql⟩ (by rw [hst]; simp)).len.1
              subst hst
              clear hls hm
              obtain ⟨gs, c, rfl, hgs, hgsl, hcap, hmx⟩ := HO.out.lit (by simp)
              have hsrc : ∀ j u, (ptE.cells [⟨pA, pl.length, pc, pl⟩, ⟨qA, ql.length, qc, ql⟩])[j]? = some u → wr.cell? ((⟨gs, st0.length, none⟩ : Addr).add j) = some u := by
                have := HO.out.part
                rw [show st0.length * ptE.sz = st0.length from Nat.mul_one _] at this
                exact this
              have HSrc := Lib.hid hsrc
              have HSh := Lib.hid HO.out.shrink
              rw [List.length_append, show ([⟨pA, pl.length, pc, pl⟩, ⟨qA, ql.length, qc, ql⟩] : List Pv).length = 2 from rfl] at hcap
              have hst0 : st0.length ≤ 9000 := by rw [List.length_append] at hln; omega
              have hln2 : st0.length ≤ i := by rw [List.length_append] at hln; omega
              have hgc : st0.length ≤ c := by omega
              have hne : ¬ c = st0.length := by omega
              have hwz : (wr.alloc (.cells #[.int .i64 10, .string tx] 45)).heap.size = wr.heap.size + 1 := by simp
              have HWZ := Lib.hid hwz
              have HV1 := Lib.hid (show ∀ q ∈ st0, Vw wr (.slice (some ⟨gs, 0, none⟩) st0.length c) q from fun q hq => (HV.out q (List.mem_append_left _ hq)).re rfl)
              have HVp := Lib.hid (show Vw wr (.slice (some ⟨gs, 0, none⟩) st0.length c) ⟨pA, pl.length, pc, pl⟩ from (HV.out _ (by simp)).re rfl)
              have HVq := Lib.hid (show Vw wr (.slice (some ⟨gs, 0, none⟩) st0.length c) ⟨qA, ql.length, qc, ql⟩ from (HV.out _ (by simp)).re rfl)
              clear hsrc hwz hcap hln
              go_wp2_with fail
              refine (rule_arity.calls k 10 2 _ HAr.out).mono ?_
              rintro e w2 ⟨rfl, ⟨⟨n, rfl⟩⟩⟩
              go_wp2_with (refine ptE.appendL rfl _ _ rfl rfl (wr.heap.size + 1) _ [] rfl ((G.El.Own.fresh' (wr.alloc (.cells #[.int .i64 10, .string tx] 45)) _ HWZ.out (Nat.le_refl _)).drewN n) ⟨gs, st0.length, none⟩ 2 (c - st0.length) [⟨pA, pl.length, pc, pl⟩, ⟨qA, ql.length, qc, ql⟩] rfl (by decide) rfl (fun j u hj => ((((G.But.refl G.No wr).alloc _).alloc _).drewN n).cell_some (HSrc.out j u hj) (fun c => c)) (by decide) (by simp) ?_; intro g2 c2 w3 hown hgrow hat; (have hb3 : G.But G.No (wr.alloc (.cells #[.int .i64 10, .string tx] 45)) w3 := G.El.Own.grown (((G.But.refl G.No _).alloc _).drewN n) ((G.El.Own.fresh' (E := ptE) (wr.alloc (.cells #[.int .i64 10, .string tx] 45)) _ HWZ.out (Nat.le_refl _)).drewN n) hgrow (Nat.le_of_eq HWZ.out)); (have HL := Lib.hid (show ptE.Own w3 (wr.heap.size + 1) (.slice (some ⟨g2, 0, none⟩) 2 c2) [⟨pA, pl.length, pc, pl⟩, ⟨qA, ql.length, qc, ql⟩] from hown)); (have HB3 := Lib.hid hb3); (have hx0 : w3.cell? ⟨wr.heap.size, 0, none⟩ = some (.int .i64 10) := hb3.cell_some (p := ⟨wr.heap.size, 0, none⟩) ((cell_of_row _ _ 0 _ _ _ (heap_alloc_new wr _)).trans rfl) (fun c => c)); (have hx1 : w3.cell? ⟨wr.heap.size, 1, none⟩ = some (.string tx) := hb3.cell_some (p := ⟨wr.heap.size, 1, none⟩) ((cell_of_row _ _ 1 _ _ _ (heap_alloc_new wr _)).trans rfl) (fun c => c)); (have hcp : w3.cell? ⟨g2, 0, none⟩ = some (.slice pA pl.length pc) := HL.out.cell 0 _ rfl 0 _ rfl); (have hcq : w3.cell? ⟨g2, 1, none⟩ = some (.slice qA ql.length qc) := HL.out.cell 1 _ rfl 0 _ rfl); clear hgrow hown hat hb3)
              have HB4 := Lib.hid ((HB.out.alloc (.cells #[.int .i64 10, .string tx] 45)).trans HB3.out)
              have HB5 := Lib.hid (((G.But.refl G.No wr).alloc (.cells #[.int .i64 10, .string tx] 45)).trans HB3.out)
              have hgs3 : gs < w3.heap.size := Nat.lt_of_lt_of_le hgsl HB5.out.size
              have HX2 := Lib.hid (show rule_texts.f k 10 tx ([pl, ql].map S66.mk) = some r from HX.out)
              have HPC := Lib.hid (show Kd.C k66 w3 (some ⟨g2, 0, none⟩) ([pl, ql].map S66.mk).length ([pl, ql].map S66.mk) from pvC (sv := .slice (some ⟨gs, 0, none⟩) st0.length c) HL.out (by
                intro q hq
                simp only [List.mem_cons, List.not_mem_nil, or_false] at hq
                rcases hq with rfl | rfl
                · exact HVp.out.new HB5.out
                · exact HVq.out.new HB5.out) (by simp))
              have HCm := Lib.hid (show ([pl, ql].map S66.mk).length ≤ c2 from HL.out.cap)
              go_wp2_with (first | (go_at_call 42; refine (rule_texts.calls k 10 tx (some ⟨g2, 0, none⟩) c2 ([pl, ql].map S66.mk) r _ (HPC.out) HCm.out HX2.out).mono ?_; rintro e w5 ⟨v0, rfl, hv, hb5⟩; obtain ⟨A', c', rfl⟩ := Kd.R_slice hv; (have HN := Lib.hid (Vw.ofR (u := .slice (some ⟨gs, 0, none⟩) st0.length c) hv (fun k hk => by injection hk with hk; subst hk; exact hgs3))); (have HB6 := Lib.hid (show G.But G.No w3 w5 from G.But.of_below hb5)); clear hv hb5) | (refine ptE.append1L rfl _ _ rfl rfl w.heap.size (.slice (some ⟨gs, 0, none⟩) st0.length c) st0 rfl ((HSh.out.new (HB5.out.trans HB6.out)).alloc _) w5.heap.size ⟨A', r.length, c', r⟩ #[.slice A' r.length c'] rfl rfl (heap_alloc_new _ _) (by show (st0.length + 1) * (24 + 1) ≤ _; omega) (Nat.le_trans (HB4.out.trans HB6.out).size (by simp)) ?_; intro g6 c6 w6 hown hgrow hat; (have HQ := Lib.hid (fold_close ((HB4.out.trans HB6.out).alloc _) ((HSh.out.new (HB5.out.trans HB6.out)).alloc _) (fun q hq => (HV1.out q hq).new ((HB5.out.trans HB6.out).alloc _)) (HN.out.new ((G.But.refl G.No _).alloc _)) hown hgrow hat)); clear hown hgrow hat))
              go_roundg (l0.length - (i + 1))
              case measure => rw [HGK.out]; omega
              case rel => exact ⟨i + 1, st0 ++ [⟨A', r.length, c', r⟩], rfl, by omega, by go_num, HQ.out.1, HQ.out.2.1, HQ.out.2.2, by simp; omega, by rw [List.map_append]; exact HRest.out⟩
            · obtain ⟨⟨pA, pn, pc, pl⟩, rfl⟩ := List.length_eq_one_iff.1 (show ls.length = 1 from hls)
              obtain rfl : pn = pl.length := (HV.out ⟨pA, pn, pc, pl⟩ (by rw [hst]; simp)).len.1
              subst hst
              clear hls hm
              obtain ⟨gs, c, rfl, hgs, hgsl, hcap, hmx⟩ := HO.out.lit (by simp)
              have hsrc : ∀ j u, (ptE.cells [⟨pA, pl.length, pc, pl⟩])[j]? = some u → wr.cell? ((⟨gs, st0.length, none⟩ : Addr).add j) = some u := by
                have := HO.out.part
                rw [show st0.length * ptE.sz = st0.length from Nat.mul_one _] at this
                exact this
              have HSrc := Lib.hid hsrc
              have HSh := Lib.hid HO.out.shrink
              rw [List.length_append, show ([⟨pA, pl.length, pc, pl⟩] : List Pv).length = 1 from rfl] at hcap
              have hst0 : st0.length ≤ 9000 := by rw [List.length_append] at hln; omega
              have hln2 : st0.length ≤ i := by rw [List.length_append] at hln; omega
              have hgc : st0.length ≤ c := by omega
              have hne : ¬ c = st0.length := by omega
              have hwz : (wr.alloc (.cells #[.int .i64 11, .string tx] 45)).heap.size = wr.heap.size + 1 := by simp
              have HWZ := Lib.hid hwz
              have HV1 := Lib.hid (show ∀ q ∈ st0, Vw wr (.slice (some ⟨gs, 0, none⟩) st0.length c) q from fun q hq => (HV.out q (List.mem_append_left _ hq)).re rfl)
              have HVp := Lib.hid (show Vw wr (.slice (some ⟨gs, 0, none⟩) st0.length c) ⟨pA, pl.length, pc, pl⟩ from (HV.out _ (by simp)).re rfl)
              clear hsrc hwz hcap hln
              go_wp2_with fail
              refine (rule_arity.calls k 11 1 _ HAr.out).mono ?_
              rintro e w2 ⟨rfl, ⟨⟨n, rfl⟩⟩⟩
              go_wp2_with (refine ptE.appendL rfl _ _ rfl rfl (wr.heap.size + 1) _ [] rfl ((G.El.Own.fresh' (wr.alloc (.cells #[.int .i64 11, .string tx] 45)) _ HWZ.out (Nat.le_refl _)).drewN n) ⟨gs, st0.length, none⟩ 1 (c - st0.length) [⟨pA, pl.length, pc, pl⟩] rfl (by decide) rfl (fun j u hj => ((((G.But.refl G.No wr).alloc _).alloc _).drewN n).cell_some (HSrc.out j u hj) (fun c => c)) (by decide) (by simp) ?_; intro g2 c2 w3 hown hgrow hat; (have hb3 : G.But G.No (wr.alloc (.cells #[.int .i64 11, .string tx] 45)) w3 := G.El.Own.grown (((G.But.refl G.No _).alloc _).drewN n) ((G.El.Own.fresh' (E := ptE) (wr.alloc (.cells #[.int .i64 11, .string tx] 45)) _ HWZ.out (Nat.le_refl _)).drewN n) hgrow (Nat.le_of_eq HWZ.out)); (have HL := Lib.hid (show ptE.Own w3 (wr.heap.size + 1) (.slice (some ⟨g2, 0, none⟩) 1 c2) [⟨pA, pl.length, pc, pl⟩] from hown)); (have HB3 := Lib.hid hb3); (have hx0 : w3.cell? ⟨wr.heap.size, 0, none⟩ = some (.int .i64 11) := hb3.cell_some (p := ⟨wr.heap.size, 0, none⟩) ((cell_of_row _ _ 0 _ _ _ (heap_alloc_new wr _)).trans rfl) (fun c => c)); (have hx1 : w3.cell? ⟨wr.heap.size, 1, none⟩ = some (.string tx) := hb3.cell_some (p := ⟨wr.heap.size, 1, none⟩) ((cell_of_row _ _ 1 _ _ _ (heap_alloc_new wr _)).trans rfl) (fun c => c)); (have hcp : w3.cell? ⟨g2, 0, none⟩ = some (.slice pA pl.length pc) := HL.out.cell 0 _ rfl 0 _ rfl); clear hgrow hown hat hb3)
              have HB4 := Lib.hid ((HB.out.alloc (.cells #[.int .i64 11, .string tx] 45)).trans HB3.out)
              have HB5 := Lib.hid (((G.But.refl G.No wr).alloc (.cells #[.int .i64 11, .string tx] 45)).trans HB3.out)
              have hgs3 : gs < w3.heap.size := Nat.lt_of_lt_of_le hgsl HB5.out.size
              have HX2 := Lib.hid (show rule_not.f k 11 tx pl = some r from HX.out)
              have HVp3 := Lib.hid ((HVp.out).new (HB5.out))

              have hxg : wr.heap.size ≠ gs := by omega
              have hg2g : g2 ≠ gs := by have := HL.out.block.1; omega
              go_region_held3 (fun w' => w'.cell? ⟨wr.heap.size, 0, none⟩ = some (.int .i64 11) ∧ w'.cell? ⟨wr.heap.size, 1, none⟩ = some (.string tx) ∧ w'.cell? ⟨g2, 0, none⟩ = some (.slice pA pl.length pc)) (first | go_keep | exact ⟨kx0, kx1, kx2⟩ | exact ⟨kz0, kz1, kz2⟩) ((first | (go_at_call 40; refine (rule_not.calls k 11 tx (fun k_ => some k_ ≠ (Value.slice (some ⟨gs, 0, none⟩) st0.length c).ownBlock) pA pc pl r _ (by first | exact HVp3.out | exact Kd.V_drew HVp3.out | exact Kd.V_drewN HVp3.out _) HX2.out).mono ?_; rintro e w5 ⟨v0, rfl, hv, hb5⟩; obtain ⟨A', c', rfl⟩ := Kd.V_slice hv; (have HN := Lib.hid (Vw.ofV (u := .slice (some ⟨gs, 0, none⟩) st0.length c) (Kd.V_mono hv (fun k hk => hk)) (fun k hk => by injection hk with hk; subst hk; exact hgs3))); (have HB6 := Lib.hid (show G.But G.No w3 w5 from (by first | exact (G.But.refl G.No w3).trans (G.But.of_below hb5) | exact ((G.But.refl G.No w3).drew).trans (G.But.of_below hb5) | exact ((G.But.refl G.No w3).drewN _).trans (G.But.of_below hb5)))); (have kx0 : w5.cell? ⟨wr.heap.size, 0, none⟩ = some (.int .i64 11) := HB6.out.cell_some (p := ⟨wr.heap.size, 0, none⟩) (by first | exact hx0 | assumption) (fun c => c)); (have kx1 : w5.cell? ⟨wr.heap.size, 1, none⟩ = some (.string tx) := HB6.out.cell_some (p := ⟨wr.heap.size, 1, none⟩) (by first | exact hx1 | assumption) (fun c => c)); (have kx2 : w5.cell? ⟨g2, 0, none⟩ = some (.slice pA pl.length pc) := HB6.out.cell_some (p := ⟨g2, 0, none⟩) (by first | exact hcp | assumption) (fun c => c)); clear hv hb5) | (refine ptE.step1L rfl _ _ rfl rfl w.heap.size (.slice (some ⟨gs, 0, none⟩) st0.length c) st0 rfl ((HSh.out.new (HB5.out.trans HB6.out)).alloc _) w5.heap.size ⟨A', r.length, c', r⟩ #[.slice A' r.length c'] rfl rfl (heap_alloc_new _ _) (by show (st0.length + 1) * (24 + 1) ≤ _; omega) (Nat.le_trans (HB4.out.trans HB6.out).size (by simp)) ?_; intro g6 c6 w6 hown hgrow hat; (have HQ := Lib.hid (fold_close ((HB4.out.trans HB6.out).alloc _) ((HSh.out.new (HB5.out.trans HB6.out)).alloc _) (fun q hq => (HV1.out q hq).new ((HB5.out.trans HB6.out).alloc _)) (HN.out.new ((G.But.refl G.No _).alloc _)) hown hgrow hat)); (have kz0 : w6.cell? ⟨wr.heap.size, 0, none⟩ = some (.int .i64 11) := by first | exact (stay hgrow hxg (((G.But.refl G.No w5).alloc _).cell_some (p := ⟨wr.heap.size, 0, none⟩) kx0 (fun c => c)))); (have kz1 : w6.cell? ⟨wr.heap.size, 1, none⟩ = some (.string tx) := by first | exact (stay hgrow hxg (((G.But.refl G.No w5).alloc _).cell_some (p := ⟨wr.heap.size, 1, none⟩) kx1 (fun c => c)))); (have kz2 : w6.cell? ⟨g2, 0, none⟩ = some (.slice pA pl.length pc) := by first | exact (stay hgrow hg2g (((G.But.refl G.No w5).alloc _).cell_some (p := ⟨g2, 0, none⟩) kx2 (fun c => c)))); clear hown hgrow hat)))
              all_goals
                go_wp2_with fail
                go_roundg (l0.length - (i + 1))
                case measure => rw [HGK.out]; omega
                case rel => exact ⟨i + 1, st0 ++ [⟨A', r.length, c', r⟩], rfl, by omega, by go_num, HQ.out.1, HQ.out.2.1, HQ.out.2.2, by simp; omega, by rw [List.map_append]; exact HRest.out⟩
            · obtain ⟨⟨pA, pn, pc, pl⟩, ⟨qA, qn, qc, ql⟩, rfl⟩ := len_two (show ls.length = 2 from hls)
              obtain rfl : pn = pl.length := (HV.out ⟨pA, pn, pc, pl⟩ (by rw [hst]; simp)).len.1
              obtain rfl : qn = ql.length := (HV.out ⟨qA, qn, qc, ql⟩ (by rw [hst]; simp)).len.1
              subst hst
              clear hls hm
              obtain ⟨gs, c, rfl, hgs, hgsl, hcap, hmx⟩ := HO.out.lit (by simp)
              have hsrc : ∀ j u, (ptE.cells [⟨pA, pl.length, pc, pl⟩, ⟨qA, ql.length, qc, ql⟩])[j]? = some u → wr.cell? ((⟨gs, st0.length, none⟩ : Addr).add j) = some u := by
                have := HO.out.part
                rw [show st0.length * ptE.sz = st0.length from Nat.mul_one _] at this
                exact this
              have HSrc := Lib.hid hsrc
              have HSh := Lib.hid HO.out.shrink
              rw [List.length_append, show ([⟨pA, pl.length, pc, pl⟩, ⟨qA, ql.length, qc, ql⟩] : List Pv).length = 2 from rfl] at hcap
              have hst0 : st0.length ≤ 9000 := by rw [List.length_append] at hln; omega
              have hln2 : st0.length ≤ i := by rw [List.length_append] at hln; omega
              have hgc : st0.length ≤ c := by omega
              have hne : ¬ c = st0.length := by omega
              have hwz : (wr.alloc (.cells #[.int .i64 12, .string tx] 45)).heap.size = wr.heap.size + 1 := by simp
              have HWZ := Lib.hid hwz
              have HV1 := Lib.hid (show ∀ q ∈ st0, Vw wr (.slice (some ⟨gs, 0, none⟩) st0.length c) q from fun q hq => (HV.out q (List.mem_append_left _ hq)).re rfl)
              have HVp := Lib.hid (show Vw wr (.slice (some ⟨gs, 0, none⟩) st0.length c) ⟨pA, pl.length, pc, pl⟩ from (HV.out _ (by simp)).re rfl)
              have HVq := Lib.hid (show Vw wr (.slice (some ⟨gs, 0, none⟩) st0.length c) ⟨qA, ql.length, qc, ql⟩ from (HV.out _ (by simp)).re rfl)
              clear hsrc hwz hcap hln
              go_wp2_with fail
              refine (rule_arity.calls k 12 2 _ HAr.out).mono ?_
              rintro e w2 ⟨rfl, ⟨⟨n, rfl⟩⟩⟩
              go_wp2_with (refine ptE.appendL rfl _ _ rfl rfl (wr.heap.size + 1) _ [] rfl ((G.El.Own.fresh' (wr.alloc (.cells #[.int .i64 12, .string tx] 45)) _ HWZ.out (Nat.le_refl _)).drewN n) ⟨gs, st0.length, none⟩ 2 (c - st0.length) [⟨pA, pl.length, pc, pl⟩, ⟨qA, ql.length, qc, ql⟩] rfl (by decide) rfl (fun j u hj => ((((G.But.refl G.No wr).alloc _).alloc _).drewN n).cell_some (HSrc.out j u hj) (fun c => c)) (by decide) (by simp) ?_; intro g2 c2 w3 hown hgrow hat; (have hb3 : G.But G.No (wr.alloc (.cells #[.int .i64 12, .string tx] 45)) w3 := G.El.Own.grown (((G.But.refl G.No _).alloc _).drewN n) ((G.El.Own.fresh' (E := ptE) (wr.alloc (.cells #[.int .i64 12, .string tx] 45)) _ HWZ.out (Nat.le_refl _)).drewN n) hgrow (Nat.le_of_eq HWZ.out)); (have HL := Lib.hid (show ptE.Own w3 (wr.heap.size + 1) (.slice (some ⟨g2, 0, none⟩) 2 c2) [⟨pA, pl.length, pc, pl⟩, ⟨qA, ql.length, qc, ql⟩] from hown)); (have HB3 := Lib.hid hb3); (have hx0 : w3.cell? ⟨wr.heap.size, 0, none⟩ = some (.int .i64 12) := hb3.cell_some (p := ⟨wr.heap.size, 0, none⟩) ((cell_of_row _ _ 0 _ _ _ (heap_alloc_new wr _)).trans rfl) (fun c => c)); (have hx1 : w3.cell? ⟨wr.heap.size, 1, none⟩ = some (.string tx) := hb3.cell_some (p := ⟨wr.heap.size, 1, none⟩) ((cell_of_row _ _ 1 _ _ _ (heap_alloc_new wr _)).trans rfl) (fun c => c)); (have hcp : w3.cell? ⟨g2, 0, none⟩ = some (.slice pA pl.length pc) := HL.out.cell 0 _ rfl 0 _ rfl); (have hcq : w3.cell? ⟨g2, 1, none⟩ = some (.slice qA ql.length qc) := HL.out.cell 1 _ rfl 0 _ rfl); clear hgrow hown hat hb3)
              have HB4 := Lib.hid ((HB.out.alloc (.cells #[.int .i64 12, .string tx] 45)).trans HB3.out)
              have HB5 := Lib.hid (((G.But.refl G.No wr).alloc (.cells #[.int .i64 12, .string tx] 45)).trans HB3.out)
              have hgs3 : gs < w3.heap.size := Nat.lt_of_lt_of_le hgsl HB5.out.size
              have HX2 := Lib.hid (show rule_logic.f k 12 tx pl ql = some r from HX.out)
              have HVp3 := Lib.hid ((HVp.out).new (HB5.out))
              have HVq3 := Lib.hid ((HVq.out).new (HB5.out))

              have hxg : wr.heap.size ≠ gs := by omega
              have hg2g : g2 ≠ gs := by have := HL.out.block.1; omega
              go_region_held3 (fun w' => w'.cell? ⟨wr.heap.size, 0, none⟩ = some (.int .i64 12) ∧ w'.cell? ⟨wr.heap.size, 1, none⟩ = some (.string tx) ∧ w'.cell? ⟨g2, 0, none⟩ = some (.slice pA pl.length pc) ∧ w'.cell? ⟨g2, 1, none⟩ = some (.slice qA ql.length qc)) (first | go_keep | exact ⟨kx0, kx1, kx2, kx3⟩ | exact ⟨kz0, kz1, kz2, kz3⟩) ((first | (go_at_call 41; refine (rule_logic.calls k 12 tx (fun k_ => some k_ ≠ (Value.slice (some ⟨gs, 0, none⟩) st0.length c).ownBlock) pA pc pl (fun k_ => some k_ ≠ (Value.slice (some ⟨gs, 0, none⟩) st0.length c).ownBlock) qA qc ql r _ (by first | exact HVp3.out | exact Kd.V_drew HVp3.out | exact Kd.V_drewN HVp3.out _) (by first | exact HVq3.out | exact Kd.V_drew HVq3.out | exact Kd.V_drewN HVq3.out _) HX2.out).mono ?_; rintro e w5 ⟨v0, rfl, hv, hb5⟩; obtain ⟨A', c', rfl⟩ := Kd.V_slice hv; (have HN := Lib.hid (Vw.ofV (u := .slice (some ⟨gs, 0, none⟩) st0.length c) (Kd.V_mono hv (fun k hk => (by rcases hk with (hk | hk) | hk; exact .inl hk; exact .inl hk; exact .inr hk))) (fun k hk => by injection hk with hk; subst hk; exact hgs3))); (have HB6 := Lib.hid (show G.But G.No w3 w5 from (by first | exact (G.But.refl G.No w3).trans (G.But.of_below hb5) | exact ((G.But.refl G.No w3).drew).trans (G.But.of_below hb5) | exact ((G.But.refl G.No w3).drewN _).trans (G.But.of_below hb5)))); (have kx0 : w5.cell? ⟨wr.heap.size, 0, none⟩ = some (.int .i64 12) := HB6.out.cell_some (p := ⟨wr.heap.size, 0, none⟩) (by first | exact hx0 | assumption) (fun c => c)); (have kx1 : w5.cell? ⟨wr.heap.size, 1, none⟩ = some (.string tx) := HB6.out.cell_some (p := ⟨wr.heap.size, 1, none⟩) (by first | exact hx1 | assumption) (fun c => c)); (have kx2 : w5.cell? ⟨g2, 0, none⟩ = some (.slice pA pl.length pc) := HB6.out.cell_some (p := ⟨g2, 0, none⟩) (by first | exact hcp | assumption) (fun c => c)); (have kx3 : w5.cell? ⟨g2, 1, none⟩ = some (.slice qA ql.length qc) := HB6.out.cell_some (p := ⟨g2, 1, none⟩) (by first | exact hcq | assumption) (fun c => c)); clear hv hb5) | (refine ptE.step1L rfl _ _ rfl rfl w.heap.size (.slice (some ⟨gs, 0, none⟩) st0.length c) st0 rfl ((HSh.out.new (HB5.out.trans HB6.out)).alloc _) w5.heap.size ⟨A', r.length, c', r⟩ #[.slice A' r.length c'] rfl rfl (heap_alloc_new _ _) (by show (st0.length + 1) * (24 + 1) ≤ _; omega) (Nat.le_trans (HB4.out.trans HB6.out).size (by simp)) ?_; intro g6 c6 w6 hown hgrow hat; (have HQ := Lib.hid (fold_close ((HB4.out.trans HB6.out).alloc _) ((HSh.out.new (HB5.out.trans HB6.out)).alloc _) (fun q hq => (HV1.out q hq).new ((HB5.out.trans HB6.out).alloc _)) (HN.out.new ((G.But.refl G.No _).alloc _)) hown hgrow hat)); (have kz0 : w6.cell? ⟨wr.heap.size, 0, none⟩ = some (.int .i64 12) := by first | exact (stay hgrow hxg (((G.But.refl G.No w5).alloc _).cell_some (p := ⟨wr.heap.size, 0, none⟩) kx0 (fun c => c)))); (have kz1 : w6.cell? ⟨wr.heap.size, 1, none⟩ = some (.string tx) := by first | exact (stay hgrow hxg (((G.But.refl G.No w5).alloc _).cell_some (p := ⟨wr.heap.size, 1, none⟩) kx1 (fun c => c)))); (have kz2 : w6.cell? ⟨g2, 0, none⟩ = some (.slice pA pl.length pc) := by first | exact (stay hgrow hg2g (((G.But.refl G.No w5).alloc _).cell_some (p := ⟨g2, 0, none⟩) kx2 (fun c => c)))); (have kz3 : w6.cell? ⟨g2, 1, none⟩ = some (.slice qA ql.length qc) := by first | exact (stay hgrow hg2g (((G.But.refl G.No w5).alloc _).cell_some (p := ⟨g2, 1, none⟩) kx3 (fun c => c)))); clear hown hgrow hat)))
              all_goals
                go_wp2_with fail
                go_roundg (l0.length - (i + 1))
                case measure => rw [HGK.out]; omega
                case rel => exact ⟨i + 1, st0 ++ [⟨A', r.length, c', r⟩], rfl, by omega, by go_num, HQ.out.1, HQ.out.2.1, HQ.out.2.2, by simp; omega, by rw [List.map_append]; exact HRest.out⟩
            · obtain ⟨⟨pA, pn, pc, pl⟩, ⟨qA, qn, qc, ql⟩, rfl⟩ := len_two (show ls.length = 2 from hls)
              obtain rfl : pn = pl.length := (HV.out ⟨pA, pn, pc, pl⟩ (by rw [hst]; simp)).len.1
              obtain rfl : qn = ql.length := (HV.out ⟨qA, qn, qc, ql⟩ (by rw [hst]; simp)).len.1
              subst hst
              clear hls hm
              obtain ⟨gs, c, rfl, hgs, hgsl, hcap, hmx⟩ := HO.out.lit (by simp)
              have hsrc : ∀ j u, (ptE.cells [⟨pA, pl.length, pc, pl⟩, ⟨qA, ql.length, qc, ql⟩])[j]? = some u → wr.cell? ((⟨gs, st0.length, none⟩ : Addr).add j) = some u := by
                have := HO.out.part
                rw [show st0.length * ptE.sz = st0.length from Nat.mul_one _] at this
                exact this
              have HSrc := Lib.hid hsrc
              have HSh := Lib.hid HO.out.shrink
              rw [List.length_append, show ([⟨pA, pl.length, pc, pl⟩, ⟨qA, ql.length, qc, ql⟩] : List Pv).length = 2 from rfl] at hcap
              have hst0 : st0.length ≤ 9000 := by rw [List.length_append] at hln; omega
              have hln2 : st0.length ≤ i := by rw [List.length_append] at hln; omega
              have hgc : st0.length ≤ c := by omega
              have hne : ¬ c = st0.length := by omega
              have hwz : (wr.alloc (.cells #[.int .i64 13, .string tx] 45)).heap.size = wr.heap.size + 1 := by simp
              have HWZ := Lib.hid hwz
              have HV1 := Lib.hid (show ∀ q ∈ st0, Vw wr (.slice (some ⟨gs, 0, none⟩) st0.length c) q from fun q hq => (HV.out q (List.mem_append_left _ hq)).re rfl)
              have HVp := Lib.hid (show Vw wr (.slice (some ⟨gs, 0, none⟩) st0.length c) ⟨pA, pl.length, pc, pl⟩ from (HV.out _ (by simp)).re rfl)
              have HVq := Lib.hid (show Vw wr (.slice (some ⟨gs, 0, none⟩) st0.length c) ⟨qA, ql.length, qc, ql⟩ from (HV.out _ (by simp)).re rfl)
              clear hsrc hwz hcap hln
              go_wp2_with fail
              refine (rule_arity.calls k 13 2 _ HAr.out).mono ?_
              rintro e w2 ⟨rfl, ⟨⟨n, rfl⟩⟩⟩
              go_wp2_with (refine ptE.appendL rfl _ _ rfl rfl (wr.heap.size + 1) _ [] rfl ((G.El.Own.fresh' (wr.alloc (.cells #[.int .i64 13, .string tx] 45)) _ HWZ.out (Nat.le_refl _)).drewN n) ⟨gs, st0.length, none⟩ 2 (c - st0.length) [⟨pA, pl.length, pc, pl⟩, ⟨qA, ql.length, qc, ql⟩] rfl (by decide) rfl (fun j u hj => ((((G.But.refl G.No wr).alloc _).alloc _).drewN n).cell_some (HSrc.out j u hj) (fun c => c)) (by decide) (by simp) ?_; intro g2 c2 w3 hown hgrow hat; (have hb3 : G.But G.No (wr.alloc (.cells #[.int .i64 13, .string tx] 45)) w3 := G.El.Own.grown (((G.But.refl G.No _).alloc _).drewN n) ((G.El.Own.fresh' (E := ptE) (wr.alloc (.cells #[.int .i64 13, .string tx] 45)) _ HWZ.out (Nat.le_refl _)).drewN n) hgrow (Nat.le_of_eq HWZ.out)); (have HL := Lib.hid (show ptE.Own w3 (wr.heap.size + 1) (.slice (some ⟨g2, 0, none⟩) 2 c2) [⟨pA, pl.length, pc, pl⟩, ⟨qA, ql.length, qc, ql⟩] from hown)); (have HB3 := Lib.hid hb3); (have hx0 : w3.cell? ⟨wr.heap.size, 0, none⟩ = some (.int .i64 13) := hb3.cell_some (p := ⟨wr.heap.size, 0, none⟩) ((cell_of_row _ _ 0 _ _ _ (heap_alloc_new wr _)).trans rfl) (fun c => c)); (have hx1 : w3.cell? ⟨wr.heap.size, 1, none⟩ = some (.string tx) := hb3.cell_some (p := ⟨wr.heap.size, 1, none⟩) ((cell_of_row _ _ 1 _ _ _ (heap_alloc_new wr _)).trans rfl) (fun c => c)); (have hcp : w3.cell? ⟨g2, 0, none⟩ = some (.slice pA pl.length pc) := HL.out.cell 0 _ rfl 0 _ rfl); (have hcq : w3.cell? ⟨g2, 1, none⟩ = some (.slice qA ql.length qc) := HL.out.cell 1 _ rfl 0 _ rfl); clear hgrow hown hat hb3)
              have HB4 := Lib.hid ((HB.out.alloc (.cells #[.int .i64 13, .string tx] 45)).trans HB3.out)
              have HB5 := Lib.hid (((G.But.refl G.No wr).alloc (.cells #[.int .i64 13, .string tx] 45)).trans HB3.out)
              have hgs3 : gs < w3.heap.size := Nat.lt_of_lt_of_le hgsl HB5.out.size
              have HX2 := Lib.hid (show rule_logic.f k 13 tx pl ql = some r from HX.out)
              have HVp3 := Lib.hid ((HVp.out).new (HB5.out))
              have HVq3 := Lib.hid ((HVq.out).new (HB5.out))

              have hxg : wr.heap.size ≠ gs := by omega
              have hg2g : g2 ≠ gs := by have := HL.out.block.1; omega
              go_region_held3 (fun w' => w'.cell? ⟨wr.heap.size, 0, none⟩ = some (.int .i64 13) ∧ w'.cell? ⟨wr.heap.size, 1, none⟩ = some (.string tx) ∧ w'.cell? ⟨g2, 0, none⟩ = some (.slice pA pl.length pc) ∧ w'.cell? ⟨g2, 1, none⟩ = some (.slice qA ql.length qc)) (first | go_keep | exact ⟨kx0, kx1, kx2, kx3⟩ | exact ⟨kz0, kz1, kz2, kz3⟩) ((first | (go_at_call 41; refine (rule_logic.calls k 13 tx (fun k_ => some k_ ≠ (Value.slice (some ⟨gs, 0, none⟩) st0.length c).ownBlock) pA pc pl (fun k_ => some k_ ≠ (Value.slice (some ⟨gs, 0, none⟩) st0.length c).ownBlock) qA qc ql r _ (by first | exact HVp3.out | exact Kd.V_drew HVp3.out | exact Kd.V_drewN HVp3.out _) (by first | exact HVq3.out | exact Kd.V_drew HVq3.out | exact Kd.V_drewN HVq3.out _) HX2.out).mono ?_; rintro e w5 ⟨v0, rfl, hv, hb5⟩; obtain ⟨A', c', rfl⟩ := Kd.V_slice hv; (have HN := Lib.hid (Vw.ofV (u := .slice (some ⟨gs, 0, none⟩) st0.length c) (Kd.V_mono hv (fun k hk => (by rcases hk with (hk | hk) | hk; exact .inl hk; exact .inl hk; exact .inr hk))) (fun k hk => by injection hk with hk; subst hk; exact hgs3))); (have HB6 := Lib.hid (show G.But G.No w3 w5 from (by first | exact (G.But.refl G.No w3).trans (G.But.of_below hb5) | exact ((G.But.refl G.No w3).drew).trans (G.But.of_below hb5) | exact ((G.But.refl G.No w3).drewN _).trans (G.But.of_below hb5)))); (have kx0 : w5.cell? ⟨wr.heap.size, 0, none⟩ = some (.int .i64 13) := HB6.out.cell_some (p := ⟨wr.heap.size, 0, none⟩) (by first | exact hx0 | assumption) (fun c => c)); (have kx1 : w5.cell? ⟨wr.heap.size, 1, none⟩ = some (.string tx) := HB6.out.cell_some (p := ⟨wr.heap.size, 1, none⟩) (by first | exact hx1 | assumption) (fun c => c)); (have kx2 : w5.cell? ⟨g2, 0, none⟩ = some (.slice pA pl.length pc) := HB6.out.cell_some (p := ⟨g2, 0, none⟩) (by first | exact hcp | assumption) (fun c => c)); (have kx3 : w5.cell? ⟨g2, 1, none⟩ = some (.slice qA ql.length qc) := HB6.out.cell_some (p := ⟨g2, 1, none⟩) (by first | exact hcq | assumption) (fun c => c)); clear hv hb5) | (refine ptE.step1L rfl _ _ rfl rfl w.heap.size (.slice (some ⟨gs, 0, none⟩) st0.length c) st0 rfl ((HSh.out.new (HB5.out.trans HB6.out)).alloc _) w5.heap.size ⟨A', r.length, c', r⟩ #[.slice A' r.length c'] rfl rfl (heap_alloc_new _ _) (by show (st0.length + 1) * (24 + 1) ≤ _; omega) (Nat.le_trans (HB4.out.trans HB6.out).size (by simp)) ?_; intro g6 c6 w6 hown hgrow hat; (have HQ := Lib.hid (fold_close ((HB4.out.trans HB6.out).alloc _) ((HSh.out.new (HB5.out.trans HB6.out)).alloc _) (fun q hq => (HV1.out q hq).new ((HB5.out.trans HB6.out).alloc _)) (HN.out.new ((G.But.refl G.No _).alloc _)) hown hgrow hat)); (have kz0 : w6.cell? ⟨wr.heap.size, 0, none⟩ = some (.int .i64 13) := by first | exact (stay hgrow hxg (((G.But.refl G.No w5).alloc _).cell_some (p := ⟨wr.heap.size, 0, none⟩) kx0 (fun c => c)))); (have kz1 : w6.cell? ⟨wr.heap.size, 1, none⟩ = some (.string tx) := by first | exact (stay hgrow hxg (((G.But.refl G.No w5).alloc _).cell_some (p := ⟨wr.heap.size, 1, none⟩) kx1 (fun c => c)))); (have kz2 : w6.cell? ⟨g2, 0, none⟩ = some (.slice pA pl.length pc) := by first | exact (stay hgrow hg2g (((G.But.refl G.No w5).alloc _).cell_some (p := ⟨g2, 0, none⟩) kx2 (fun c => c)))); (have kz3 : w6.cell? ⟨g2, 1, none⟩ = some (.slice qA ql.length qc) := by first | exact (stay hgrow hg2g (((G.But.refl G.No w5).alloc _).cell_some (p := ⟨g2, 1, none⟩) kx3 (fun c => c)))); clear hown hgrow hat)))
              all_goals
                go_wp2_with fail
                go_roundg (l0.length - (i + 1))
                case measure => rw [HGK.out]; omega
                case rel => exact ⟨i + 1, st0 ++ [⟨A', r.length, c', r⟩], rfl, by omega, by go_num, HQ.out.1, HQ.out.2.1, HQ.out.2.2, by simp; omega, by rw [List.map_append]; exact HRest.out⟩
        · obtain rfl : i = l0.length := by omega
          have hlt' : ¬ (l0.length : Int) < (l0.length : Int) := by omega
          have hR2 : st.map Pv.l = R := by
            rw [List.drop_length] at hF
            injection hF
          obtain ⟨p, st', rfl⟩ : ∃ p st', st = p :: st' := by
            have hh := HH.out
            rw [← hR2] at hh
            cases st with
            | nil => cases hh
            | cons p st' => exact ⟨p, st', rfl⟩
          have hpr : p.l.length < 5864062014805 ∧ p.l = r1 ∧ r2 = 0 := by
            have hh := HH.out
            rw [← hR2] at hh
            simp only [List.map_cons, List.head?_cons, Option.bind_some] at hh
            split at hh
            · rename_i hlt
              simp only [Option.some.injEq, Prod.mk.injEq] at hh
              exact ⟨hlt, hh.1, hh.2.symm⟩
            · cases hh
          obtain ⟨pA, pn, pc, pl⟩ := p
          obtain ⟨hp0, hp1, hp2⟩ := hpr
          have HP0 := Lib.hid hp0
          have HP := Lib.hid (HV.out ⟨pA, pn, pc, pl⟩ (List.mem_cons_self ..))
          obtain rfl : pn = pl.length := HP.out.len.1
          obtain ⟨gs, c, rfl, hgs, hgsl, hcap, hmx⟩ := HO.out.lit (by simp)
          have hcp : wr.cell? ⟨gs, 0, none⟩ = some (.slice pA pl.length pc) := HO.out.cell 0 _ rfl 0 _ rfl
          have hpl : pl = r1 := hp1
          subst hpl
          subst hp2
          have HPC := Lib.hid HP.out.len.2.2
          clear hgk hb hO hV hF hR2 hp1 hp0
          have hcp1 : pl.length ≤ pc := HP.out.len.2.1
          have hp0 : pl.length < 5864062014805 := HP0.out
          have T1 : ∀ w9 v9, Below wr.heap.size wr w9 → Kd.R k45 45 w9 wr.heap.size (fun _ => True) v9 [] → ∀ (ops : Array Oper) (rest : List Oper) (o : Oper) (a : Act) (Q : Exit → Act → World → Prop), o.guard = none → o.op = .call { callee := .builtin .append, args := #[.tmp 79, .tmp 83], argTypes := #[22, 22] } → a.eval (.tmp 79) = v9 → a.eval (.tmp 83) = .slice pA pl.length pc →
            (∀ v1 w1, Kd.R k45 45 w1 w.heap.size (fun _ => True) v1 pl → Below w.heap.size w w1 → wpList Try.prog ops Q rest (a.put o.dst v1) w1) → wpList Try.prog ops Q (o :: rest) a w9 := by
            intro w9 v9 hb9 ho9 ops rest o a Q hgd ho hs hx hc
            refine Kd.R_append_rows k45 (w0 := w) w.heap.size hgd (.tmp 79) (.tmp 83) 22 45 (.agg #[(.int .i64 0), (.string ⟨#[]⟩)]) 24 ho Try.underlying22 info45 rfl (by decide) (by omega) v9 [] pl _ _ _ (fun _ => True) (fun _ => False) hs hx ?aO ?aR (fun _ _ h => h) (fun _ h => h.elim) ?aF ?aB ?aS ?aL ?_
            case aR => exact Kd.C_below HPC.out hb9
            case aB => exact below_then HB.out.belowNo hbz hb9
            case aF => exact (fun _ _ => trivial)
            case aO => exact Kd.R_lower ho9 hbz
            case aS => exact Nat.le_trans hbz hb9.size
            case aL => show (0 + pl.length) * 24 ≤ _; omega
            intro v1 w1 ho hb hg hat
            exact hc v1 w1 ho hb
          have HT1 := Lib.hid T1
          clear T1
          go_wp2_with (first | ((with_reducible refine gate_dst (N := 79) rfl ?_); refine Kd.R_lit k45 _ 45 ?hg (N := 79) ?hd (xs := ([] : List S45)) (inner := []) (ok := fun _ => True) (okp := fun _ => True) ?hr ?hp (fun _ hk => hk) trivial (Below.refl _ _) (Nat.le_refl _) (by simp) ?_; (case hd => rfl); (case hg => rfl); (case hr => first | (go_simp; done) | (go_simp; rfl)); (case hp => exact (Reps.none _ _)); intro v9 w9 ho9 hb9 hg_ hnew_; clear hg_ hnew_; (have HO9 := Lib.hid ho9); (have HB9 := Lib.hid hb9); (have hcp9 : w9.cell? ⟨gs, 0, none⟩ = some (.slice pA pl.length pc) := (hb9.cell (p := ⟨gs, 0, none⟩) hgsl).trans hcp); clear ho9 hb9) | (at_builtin; refine HT1.out w9 v9 HB9.out HO9.out _ _ _ _ _ rfl rfl rfl rfl ?_; intro v10 w10 ho hb; (have HO10 := Lib.hid ho); (have HB10 := Lib.hid hb); clear ho hb))
          go_ret2
          exact ⟨v10, rfl, HO10.out, HB10.out⟩
    · rw [if_neg h9] at h
      cases h
end

/-! ### shuttlelaw0_SameSteps: function 22 -/
def shuttlelaw0_SameSteps.l0 : Nat → List (S45) → List (S45) → Int → Option (Bool)
  | 0, _, _, _ => none
  | k + 1, x0, x1, x5 => if x5 < (x0.length : Int) then (if 0 ≤ x5 then (if x5 < (x1.length : Int) then (if (!(((rd_T45 x0 x5).f0) == ((rd_T45 x1 x5).f0)) || (!((((rd_T45 x0 x5).f1).toList) == (((rd_T45 x1 x5).f1).toList)))) = true then (some false) else (shuttlelaw0_SameSteps.l0 k x0 x1 (wrap64 (x5 + 1)))) else (none)) else (none)) else (some true)
def shuttlelaw0_SameSteps.f (k : Nat) (l0 : List (S45)) (l1 : List (S45)) : Option (Bool) := if (l0.length : Int) = (l1.length : Int) then (shuttlelaw0_SameSteps.l0 k l0 l1 0) else (some false)
theorem shuttlelaw0_SameSteps.mono_l : ∀ k, (∀ y0 y1 y2, LeO (shuttlelaw0_SameSteps.l0 k y0 y1 y2) (shuttlelaw0_SameSteps.l0 (k + 1) y0 y1 y2))
  | 0 => fun _ _ _ r h => by simp [shuttlelaw0_SameSteps.l0] at h
  | k + 1 => by
    have ih0 := shuttlelaw0_SameSteps.mono_l k
    · intro y0 y1 y2
      unfold shuttlelaw0_SameSteps.l0
      repeat' first
      | (with_reducible exact ih0 _ _ _)
      | (with_reducible exact LeO.refl _)
      | (with_reducible exact LeO.none _)
      | (with_reducible refine LeO.ite ?_ ?_)
      | (with_reducible refine LeO.bind ?_ (fun _ => ?_))
      | exact ih0 _ _ _
      | exact LeO.none _
      | refine LeO.ite ?_ ?_
      | refine LeO.bind ?_ (fun _ => ?_)
theorem shuttlelaw0_SameSteps.mono : ∀ a0 a1 k, LeO (shuttlelaw0_SameSteps.f k a0 a1) (shuttlelaw0_SameSteps.f (k + 1) a0 a1) := by
  intro a0 a1 k
  have ih0 := shuttlelaw0_SameSteps.mono_l k
  unfold shuttlelaw0_SameSteps.f
  repeat' first
      | (with_reducible exact ih0 _ _ _)
      | (with_reducible exact LeO.refl _)
      | (with_reducible exact LeO.none _)
      | (with_reducible refine LeO.ite ?_ ?_)
      | (with_reducible refine LeO.bind ?_ (fun _ => ?_))
      | exact ih0 _ _ _
      | exact LeO.none _
      | refine LeO.ite ?_ ?_
      | refine LeO.bind ?_ (fun _ => ?_)
set_option maxHeartbeats 8000000 in
set_option maxRecDepth 100000 in
theorem shuttlelaw0_SameSteps.calls (k : Nat) (A0 : Option Addr) (c0 : Nat) (l0 : List (S45)) (A1 : Option Addr) (c1 : Nat) (l1 : List (S45)) (r : Bool) (w : World) (hr0 : Kd.C k45 w A0 l0.length l0) (hc0 : l0.length ≤ c0) (hr1 : Kd.C k45 w A1 l1.length l1) (hc1 : l1.length ≤ c1) (h : shuttlelaw0_SameSteps.f k l0 l1 = some r) :
    Calls Try.prog 22 #[.slice A0 l0.length c0, .slice A1 l1.length c1] w fun e w' => e = .returned (.bool r) ∧ Drawn0 w w' := by
  have hu45 := Try.underlying45
  have HR0 := Aside0.mk hr0
  have HC0 := Aside0.mk hc0
  clear hr0 hc0
  have HR1 := Aside0.mk hr1
  have HC1 := Aside0.mk hc1
  clear hr1 hc1
  have H : (if (l0.length : Int) = (l1.length : Int) then (shuttlelaw0_SameSteps.l0 k l0 l1 0) else (some false)) = some r := h
  clear h
  by_cases c3 : (l0.length : Int) = (l1.length : Int)
  · rw [if_pos c3] at H
    have c3b0 : ((l0.length : Int) == (l1.length : Int)) = true := beq_iff_eq.mpr c3
    have c3b1 : ((l0.length : Int) != (l1.length : Int)) = false := bne_eq_false_iff_eq.mpr c3
    have c3b2 : (l0.length == l1.length) = true := by first | simpa using c3 | (simp at c3 ⊢; omega)
    clear c3
    have H' := Aside0.mk H
    clear H
    go_enter Try.func22, Try.ntmps22
    go_wp2
    repeat (go_quiet (fail); try go_wp2)
    go_loopg [5] k (fun kq v5 w' => ∃ (x5_1 : Int), v5 = .int .i64 x5_1 ∧ Aside0 (shuttlelaw0_SameSteps.l0 kq l0 l1 x5_1 = some r) ∧ Aside0 (kq ≤ k) ∧ Drawn0 w w')
    case atStart => exact ⟨(0), (by first | rfl | (simp; done) | (simp [*]; done)), H', ⟨Nat.le_refl _⟩, by repeat (first | exact Drawn0.refl _ | apply Drawn0.step)⟩
    case round =>
      clear H'
      try clear c1
      try clear c2
      try clear p2
      try clear c3
      try clear c3b0
      try clear c3b1
      try clear c3b2
      obtain ⟨x5_1, rfl, HA, HK1, ⟨m1, rfl⟩⟩ := hrel
      cases gk with
      | zero => exact absurd HA.out (by simp [shuttlelaw0_SameSteps.l0])
      | succ k1 =>
        have H := HA.out
        clear HA
        simp only [shuttlelaw0_SameSteps.l0] at H
        by_cases c4 : x5_1 < (l0.length : Int)
        · rw [if_pos c4] at H
          have c4b0 : decide (x5_1 < (l0.length : Int)) = true := decide_eq_true c4
          clear c4
          by_cases c5 : 0 ≤ x5_1
          · rw [if_pos c5] at H
            have c5b0 : decide (0 ≤ x5_1) = true := decide_eq_true c5
            clear c5
            by_cases c6 : x5_1 < (l1.length : Int)
            · rw [if_pos c6] at H
              have c6b0 : decide (x5_1 < (l1.length : Int)) = true := decide_eq_true c6
              clear c6
              by_cases c7 : (!(((rd_T45 l0 x5_1).f0) == ((rd_T45 l1 x5_1).f0)) || (!((((rd_T45 l0 x5_1).f1).toList) == (((rd_T45 l1 x5_1).f1).toList)))) = true
              · rw [if_pos c7] at H
                have c7b0 : (!(((rd_T45 l0 x5_1).f0) == ((rd_T45 l1 x5_1).f0)) || (!((((rd_T45 l0 x5_1).f1).toList) == (((rd_T45 l1 x5_1).f1).toList)))) = true := c7
                clear c7
                obtain rfl := Option.some.inj H
                have p212 : 0 ≤ (x5_1 : Int) := of_decide_eq_true (by first | (with_reducible assumption) | assumption)
                have q212 : x5_1 < (l0.length : Int) := of_decide_eq_true (by first | (with_reducible assumption) | assumption)
                obtain ⟨ad212, e212, hx212_0, hx212_1⟩ := at_T45 HR0.out x5_1 p212 q212
                cases e212
                replace p212 := eq_true p212
                replace q212 := eq_true q212
                have p213 : 0 ≤ (x5_1 : Int) := of_decide_eq_true (by first | (with_reducible assumption) | assumption)
                have q213 : x5_1 < (l1.length : Int) := of_decide_eq_true (by first | (with_reducible assumption) | assumption)
                obtain ⟨ad213, e213, hx213_0, hx213_1⟩ := at_T45 HR1.out x5_1 p213 q213
                cases e213
                replace p213 := eq_true p213
                replace q213 := eq_true q213
                go_wp2
                repeat (go_quiet (fail); try go_wp2)
                go_ret
                exact ⟨by first | rfl | (simp; done) | (simp [*]; done), by repeat (first | exact Drawn0.refl _ | apply Drawn0.step)⟩
              · rw [if_neg c7] at H
                have c7b0 : (!(((rd_T45 l0 x5_1).f0) == ((rd_T45 l1 x5_1).f0)) || (!((((rd_T45 l0 x5_1).f1).toList) == (((rd_T45 l1 x5_1).f1).toList)))) = false := by simpa using c7
                clear c7
                have H' := Aside0.mk H
                clear H
                have p212 : 0 ≤ (x5_1 : Int) := of_decide_eq_true (by first | (with_reducible assumption) | assumption)
                have q212 : x5_1 < (l0.length : Int) := of_decide_eq_true (by first | (with_reducible assumption) | assumption)
                obtain ⟨ad212, e212, hx212_0, hx212_1⟩ := at_T45 HR0.out x5_1 p212 q212
                cases e212
                replace p212 := eq_true p212
                replace q212 := eq_true q212
                have p213 : 0 ≤ (x5_1 : Int) := of_decide_eq_true (by first | (with_reducible assumption) | assumption)
                have q213 : x5_1 < (l1.length : Int) := of_decide_eq_true (by first | (with_reducible assumption) | assumption)
                obtain ⟨ad213, e213, hx213_0, hx213_1⟩ := at_T45 HR1.out x5_1 p213 q213
                cases e213
                replace p213 := eq_true p213
                replace q213 := eq_true q213
                go_wp2
                repeat (go_quiet (fail); try go_wp2)
                go_roundg k1
                case measure => have := HK1.out; omega
                case rel => exact ⟨(wrap64 (x5_1 + 1)), (by first | rfl | (simp; done) | (simp [*]; done)), H', ⟨by have := HK1.out; omega⟩, by repeat (first | exact Drawn0.refl _ | apply Drawn0.step)⟩
            · rw [if_neg c6] at H
              exact absurd H (by simp)
          · rw [if_neg c5] at H
            exact absurd H (by simp)
        · rw [if_neg c4] at H
          have c4b0 : decide (x5_1 < (l0.length : Int)) = false := decide_eq_false c4
          clear c4
          obtain rfl := Option.some.inj H
          go_wp2
          repeat (go_quiet (fail); try go_wp2)
          go_ret
          exact ⟨by first | rfl | (simp; done) | (simp [*]; done), by repeat (first | exact Drawn0.refl _ | apply Drawn0.step)⟩
  · rw [if_neg c3] at H
    have c3b0 : ((l0.length : Int) == (l1.length : Int)) = false := beq_eq_false_iff_ne.mpr c3
    have c3b1 : ((l0.length : Int) != (l1.length : Int)) = true := bne_iff_ne.mpr c3
    have c3b2 : (l0.length == l1.length) = false := by first | simpa using c3 | (simp at c3 ⊢; omega)
    obtain rfl := Option.some.inj H
    go_enter Try.func22, Try.ntmps22
    go_wp2
    repeat (go_quiet (fail); try go_wp2)
    go_ret
    exact ⟨by first | rfl | (simp; done) | (simp [*]; done), by repeat (first | exact Drawn0.refl _ | apply Drawn0.step)⟩

/-! ### rule_one: function 45 -/
def rule_one.f (a0 : Int) : Option (Bool) := if a0 ≥ 0 then (some (decide (a0 ≤ 3))) else (some false)
set_option maxHeartbeats 8000000 in
set_option maxRecDepth 100000 in
theorem rule_one.calls (a0 : Int) (r : Bool) (w : World) (h : rule_one.f a0 = some r) :
    Calls Try.prog 45 #[.int .i64 a0] w fun e w' => e = .returned (.bool r) ∧ Drawn0 w w' := by
  have H : (if a0 ≥ 0 then (some (decide (a0 ≤ 3))) else (some false)) = some r := h
  clear h
  by_cases c2 : a0 ≥ 0
  · rw [if_pos c2] at H
    have c2b0 : decide (0 ≤ a0) = true := decide_eq_true c2
    clear c2
    obtain rfl := Option.some.inj H
    go_enter Try.func45, Try.ntmps45
    go_wp2
    go_ret
    exact ⟨by first | rfl | (simp; done) | (simp [*]; done), by repeat (first | exact Drawn0.refl _ | apply Drawn0.step)⟩
  · rw [if_neg c2] at H
    have c2b0 : decide (0 ≤ a0) = false := decide_eq_false c2
    clear c2
    obtain rfl := Option.some.inj H
    go_enter Try.func45, Try.ntmps45
    go_wp2
    go_ret
    exact ⟨by first | rfl | (simp; done) | (simp [*]; done), by repeat (first | exact Drawn0.refl _ | apply Drawn0.step)⟩

end Go.Proofs.Ytinhlaiogkmkfaa.PA
