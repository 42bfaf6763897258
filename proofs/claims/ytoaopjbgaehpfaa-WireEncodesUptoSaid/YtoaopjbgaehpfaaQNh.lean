/- The reference's Check of an expression: the walk (printed by gen_nh.py). -/
import Derived.Test.YtoaopjbgaehpfaaQMr
namespace Go.Proofs.Ytoaopjbgaehpfaa.G
open Go.RowKit
attribute [local simp, local go_sem] alloc_drewN setCell_drewN
set_option linter.unusedVariables false
set_option linter.unusedSimpArgs false
set_option maxRecDepth 100000
abbrev Sp := Int × ByteArray
def okR (x : Sp) (st : List Sp) : Bool := decide (0 ≤ arityB x.1) && decide (arityB x.1 ≤ st.length) && ownB x.1 x.2 && fitsB x.1 (st.drop (st.length - (arityB x.1).toNat))
def rootR : List Sp → Bool
  | [y] => trB y.1
  | _ => false
def refR : List Sp → List Sp → Bool
  | [], st => rootR st
  | x :: t, st => if okR x st = true then refR t (st.take (st.length - (arityB x.1).toNat) ++ [x]) else false
def refOk (t : List Sp) : Bool := decide (t.length ≤ 1024) && refR t []
theorem arityB_cases (k : Int) : (arityB k = 0 ∧ 1 ≤ k ∧ k ≤ 5) ∨ (arityB k = 1 ∧ (k = 6 ∨ k = 11)) ∨ (arityB k = 2 ∧ (k = 7 ∨ k = 8 ∨ k = 9 ∨ k = 10 ∨ k = 12 ∨ k = 13)) ∨ (arityB k = -1 ∧ (k < 1 ∨ 13 < k)) := by
  unfold arityB
  by_cases c1 : 1 ≤ k ∧ k ≤ 5
  · rw [if_pos c1]; exact .inl ⟨rfl, c1⟩
  rw [if_neg c1]
  by_cases c2 : k = 6 ∨ k = 11
  · rw [if_pos c2]; exact .inr (.inl ⟨rfl, c2⟩)
  rw [if_neg c2]
  by_cases c3 : 7 ≤ k ∧ k ≤ 13
  · rw [if_pos c3]; exact .inr (.inr (.inl ⟨rfl, by omega⟩))
  · rw [if_neg c3]; exact .inr (.inr (.inr ⟨rfl, by omega⟩))
def RcAt (w : World) (t : List Sp) (F : Bool) (gk : Nat) (v3 v4 : Value) (wr : World) : Prop :=
  ∃ (i : Nat) (st : List Sp), gk = t.length - i ∧ i ≤ t.length ∧ v4 = .int .i64 (i : Int) ∧ But No w wr ∧ stE.Own wr w.heap.size v3 st ∧ st.length ≤ i ∧ (∀ q ∈ st, q.2.size ≤ 9223372036854775807) ∧ refR (t.drop i) st = F
/-- What is popped lies there. -/
theorem parts_in {w : World} {base g n c : Nat} {l0 l1 : List Sp} (h : stE.Own w base (.slice (some ⟨g, 0, none⟩) n c) (l0 ++ l1)) : StepsIn w (some ⟨g, l0.length * 2, none⟩) l1 := by
  intro i hi
  refine ⟨_, rfl, ?_, ?_⟩
  · have := h.cell (l0.length + i) l1[i] (by rw [List.getElem?_append_right (by omega)]; simp [hi]) 0 _ rfl
    rw [addr_add]
    simpa [stE, Nat.add_mul] using this
  · have := h.cell (l0.length + i) l1[i] (by rw [List.getElem?_append_right (by omega)]; simp [hi]) 1 _ rfl
    rw [addr_add]
    simpa [stE, Nat.add_mul] using this
theorem stepsIn_but {w w' : World} {A : Option Addr} {t : List Sp} (h : StepsIn w A t) (hb : But No w w') : StepsIn w' A t := by
  intro i hi
  obtain ⟨ad, h1, h2, h3⟩ := h i hi
  exact ⟨ad, h1, hb.cell_some h2 (fun c => c), hb.cell_some h3 (fun c => c)⟩
set_option maxHeartbeats 8000000 in
theorem rcheckX (A : Option Addr) (c : Nat) (t : List Sp) (w : World) (hT : StepsIn w A t) (hc : t.length ≤ 9223372036854775807) (hsz : ∀ q ∈ t, q.2.size ≤ 9223372036854775807) :
    Calls Try.prog 85 #[.slice A t.length c] w fun e w' => e = .returned (.bool (refOk t)) ∧ But No w w' := by
  have hc2 : t.length ≤ 9223372036854775807 := by omega
  by_cases h1 : 1024 < t.length
  · have E := Lib.hid (show refOk t = false from by unfold refOk; rw [decide_eq_false (by omega)]; rfl)
    have h1' : (1024 : Int) < (t.length : Int) := by omega
    have d1 : decide ((1024 : Int) < (t.length : Int)) = true := by simp; omega
    go_enter Try.func85, Try.ntmps85
    go_wp2_with fail
    go_ret
    exact ⟨by rw [E.out]; rfl, But.refl _ _⟩
  · have h1' : ¬ (1024 : Int) < (t.length : Int) := by omega
    have d1 : decide ((1024 : Int) < (t.length : Int)) = false := by simp; omega
    obtain ⟨F, hF⟩ : ∃ F, refR t [] = F := ⟨_, rfl⟩
    have HF := Lib.hid hF
    have HB := Lib.hid (show refOk t = F from by rw [← hF]; unfold refOk; rw [decide_eq_true (by omega)]; rfl)
    have HT := Lib.hid hT
    have HS := Lib.hid hsz
    clear hF hT hsz
    go_enter Try.func85, Try.ntmps85
    go_wp2_with fail
    go_loopg [3, 4] t.length (fun gk v3 v4 wr => RcAt w t F gk v3 v4 wr)
    case atStart => exact ⟨0, [], rfl, Nat.zero_le _, rfl, But.refl _ w, El.own_nil _ _, Nat.le_refl _, (fun q h => by cases h), HF.out⟩
    case round =>
      obtain ⟨i, st, hgk, hi, rfl, hb, hO, hsl, hss, hR⟩ := hrel
      obtain ⟨A3, c3, rfl⟩ := hO.slice
      have HGK := Lib.hid hgk
      have HR := Lib.hid hR
      have HO := Lib.hid hO
      have HBt := Lib.hid hb
      have HSS := Lib.hid hss
      clear hgk hR hO hb hss
      by_cases hlt : i < t.length
      · obtain ⟨ad, hA, k1, k2⟩ := HT.out i hlt
        have k3 := HS.out t[i] (List.getElem_mem hlt)
        have hd : t.drop i = t[i] :: t.drop (i + 1) := List.drop_eq_getElem_cons hlt
        cases hA
        have k1' := HBt.out.cell_some k1 (fun c => c)
        have k2' := HBt.out.cell_some k2 (fun c => c)
        have hlt' : (i : Int) < (t.length : Int) := by omega
        have dl : decide ((i : Int) < (t.length : Int)) = true := by simp; omega
        obtain ⟨⟨kk, tx⟩, hq⟩ : ∃ q, t[i] = q := ⟨_, rfl⟩
        rw [hq] at k1' k2' k3 hd
        dsimp only at k1' k2' k3
        have HX := Lib.hid (show F = if okR (kk, tx) st = true then refR (t.drop (i + 1)) (st.take (st.length - (arityB kk).toNat) ++ [(kk, tx)]) else false from by rw [← HR.out, hd]; rfl)
        have hst : st.length ≤ 1024 := by omega
        obtain ⟨ar, har⟩ : ∃ a, arityB kk = a := ⟨_, rfl⟩
        have hac := arityB_cases kk
        rw [har] at hac
        have HAR := Lib.hid (fun W => (har ▸ arity0 kk W : Calls Try.prog 90 #[.int .i64 kk] W fun e w' => e = .returned (.int .i64 ar) ∧ w' = W).mono (fun e w' (h : e = .returned (.int .i64 ar) ∧ w' = W) => (⟨h.1, h.2.symm⟩ : e = .returned (.int .i64 ar) ∧ W = w')))
        have HA := Lib.hid har
        have HAC := Lib.hid hac
        have HBAD := Lib.hid (fun (h : okR (kk, tx) st = false) => show refOk t = false from by rw [HB.out, HX.out, h]; rfl)
        clear k1 k2 hq hd har hac
        by_cases ca : ar < 0
        · have E := Lib.hid (HBAD.out (by unfold okR; dsimp only; rw [HA.out, decide_eq_false (by omega)]; rfl))
          have da : decide (ar < 0) = true := decide_eq_true ca
          go_wp2_with (go_at_call 90; refine (HAR.out _).mono ?_; rintro e w1 ⟨rfl, rfl⟩)
          refine wp_region_held_drew (S := fun w' => But No wr w') (by kernel_rfl) ((But.refl No wr).drewN 1) (fun hS => ?_)
          refine takeE 0 (some 21) rfl rfl (fun w e1 => by go_simp <;> (with_reducible rfl)) hS ?_
          simp only [putS]
          refine takeE 1 (some 22) rfl rfl (fun w e1 => by go_simp <;> (with_reducible rfl)) hS ?_
          simp only [putS]
          refine takeE 2 (some 23) rfl rfl (fun w e1 => by go_simp <;> (with_reducible rfl)) hS ?_
          simp only [putS]
          refine takeF 3 (some 24) rfl rfl hS ?_
          simp only [putS]
          refine takeF 4 (some 25) rfl rfl hS ?_
          simp only [putS]
          refine takeF 5 (some 26) rfl rfl hS ?_
          simp only [putS]
          refine takeF 6 (some 27) rfl rfl hS ?_
          simp only [putS]
          refine takeE 7 (some 28) rfl rfl (fun w e1 => by go_simp <;> (with_reducible rfl)) hS ?_
          simp only [putS]
          refine takeE 8 (some 29) rfl rfl (fun w e1 => by go_simp <;> (with_reducible rfl)) hS ?_
          simp only [putS]
          refine takeF 9 (some 30) rfl rfl hS ?_
          simp only [putS]
          refine takeF 10 (some 31) rfl rfl hS ?_
          simp only [putS]
          refine takeF 11 (some 32) rfl rfl hS ?_
          simp only [putS]
          refine takeF 12 (some 33) rfl rfl hS ?_
          simp only [putS]
          refine takeF 13 (some 34) rfl rfl hS ?_
          simp only [putS]
          refine takeF 14 (some 35) rfl rfl hS ?_
          simp only [putS]
          refine takeE 15 (some 36) rfl rfl (fun w e1 => by go_simp <;> (with_reducible rfl)) hS ?_
          simp only [putS]
          refine takeE 16 (some 37) rfl rfl (fun w e1 => by go_simp <;> (with_reducible rfl)) hS ?_
          simp only [putS]
          refine takeF 17 (some 38) rfl rfl hS ?_
          simp only [putS]
          refine takeF 18 (some 39) rfl rfl hS ?_
          simp only [putS]
          refine takeF 19 (some 40) rfl rfl hS ?_
          simp only [putS]
          refine takeF 20 (some 41) rfl rfl hS ?_
          simp only [putS]
          refine takeF 21 (some 42) rfl rfl hS ?_
          simp only [putS]
          refine takeF 22 (some 43) rfl rfl hS ?_
          simp only [putS]
          refine takeF 23 (some 44) rfl rfl hS ?_
          simp only [putS]
          refine takeF 24 (some 45) rfl rfl hS ?_
          simp only [putS]
          refine takeF 25 (some 46) rfl rfl hS ?_
          simp only [putS]
          refine takeF 26 (some 47) rfl rfl hS ?_
          simp only [putS]
          refine takeF 27 (some 48) rfl rfl hS ?_
          simp only [putS]
          refine takeF 28 (some 49) rfl rfl hS ?_
          simp only [putS]
          refine takeE 29 (some 50) rfl rfl (fun w e1 => by go_simp <;> (with_reducible rfl)) hS ?_
          simp only [putS]
          refine wpAnyH_done (by kernel_rfl) ?_ _
          go_wp2_with fail
          go_ret
          exact ⟨by rw [E.out]; rfl, HBt.out.trans_ hS (fun _ _ c => c)⟩
        have da : decide (ar < 0) = false := decide_eq_false ca
        have hk : ∃ k : Nat, ar = (k : Int) := ⟨ar.toNat, by omega⟩
        by_cases cb : (st.length : Int) < ar
        · have E := Lib.hid (HBAD.out (by unfold okR; dsimp only; rw [HA.out, decide_eq_false (show ¬ ar ≤ (st.length : Int) by omega), Bool.and_false]; rfl))
          have db : decide ((st.length : Int) < ar) = true := decide_eq_true cb
          clear hk
          go_wp2_with (go_at_call 90; refine (HAR.out _).mono ?_; rintro e w1 ⟨rfl, rfl⟩)
          refine wp_region_held_drew (S := fun w' => But No wr w') (by kernel_rfl) ((But.refl No wr).drewN 1) (fun hS => ?_)
          refine takeE 0 (some 21) rfl rfl (fun w e1 => by go_simp <;> (with_reducible rfl)) hS ?_
          simp only [putS]
          refine takeE 1 (some 22) rfl rfl (fun w e1 => by go_simp <;> (with_reducible rfl)) hS ?_
          simp only [putS]
          refine takeE 2 (some 23) rfl rfl (fun w e1 => by go_simp <;> (with_reducible rfl)) hS ?_
          simp only [putS]
          refine takeE 3 (some 24) rfl rfl (fun w e1 => by go_simp <;> (with_reducible rfl)) hS ?_
          simp only [putS]
          refine takeE 4 (some 25) rfl rfl (fun w e1 => by go_simp <;> (with_reducible rfl)) hS ?_
          simp only [putS]
          refine takeE 5 (some 26) rfl rfl (fun w e1 => by go_simp <;> (with_reducible rfl)) hS ?_
          simp only [putS]
          refine takeE 6 (some 27) rfl rfl (fun w e1 => by go_simp <;> (with_reducible rfl)) hS ?_
          simp only [putS]
          refine takeE 7 (some 28) rfl rfl (fun w e1 => by go_simp <;> (with_reducible rfl)) hS ?_
          simp only [putS]
          refine takeE 8 (some 29) rfl rfl (fun w e1 => by go_simp <;> (with_reducible rfl)) hS ?_
          simp only [putS]
          refine takeF 9 (some 30) rfl rfl hS ?_
          simp only [putS]
          refine takeF 10 (some 31) rfl rfl hS ?_
          simp only [putS]
          refine takeF 11 (some 32) rfl rfl hS ?_
          simp only [putS]
          refine takeF 12 (some 33) rfl rfl hS ?_
          simp only [putS]
          refine takeF 13 (some 34) rfl rfl hS ?_
          simp only [putS]
          refine takeF 14 (some 35) rfl rfl hS ?_
          simp only [putS]
          refine takeE 15 (some 36) rfl rfl (fun w e1 => by go_simp <;> (with_reducible rfl)) hS ?_
          simp only [putS]
          refine takeE 16 (some 37) rfl rfl (fun w e1 => by go_simp <;> (with_reducible rfl)) hS ?_
          simp only [putS]
          refine takeF 17 (some 38) rfl rfl hS ?_
          simp only [putS]
          refine takeF 18 (some 39) rfl rfl hS ?_
          simp only [putS]
          refine takeF 19 (some 40) rfl rfl hS ?_
          simp only [putS]
          refine takeF 20 (some 41) rfl rfl hS ?_
          simp only [putS]
          refine takeF 21 (some 42) rfl rfl hS ?_
          simp only [putS]
          refine takeF 22 (some 43) rfl rfl hS ?_
          simp only [putS]
          refine takeF 23 (some 44) rfl rfl hS ?_
          simp only [putS]
          refine takeF 24 (some 45) rfl rfl hS ?_
          simp only [putS]
          refine takeF 25 (some 46) rfl rfl hS ?_
          simp only [putS]
          refine takeF 26 (some 47) rfl rfl hS ?_
          simp only [putS]
          refine takeF 27 (some 48) rfl rfl hS ?_
          simp only [putS]
          refine takeF 28 (some 49) rfl rfl hS ?_
          simp only [putS]
          refine takeE 29 (some 50) rfl rfl (fun w e1 => by go_simp <;> (with_reducible rfl)) hS ?_
          simp only [putS]
          refine wpAnyH_done (by kernel_rfl) ?_ _
          go_wp2_with fail
          go_ret
          exact ⟨by rw [E.out]; rfl, HBt.out.trans_ hS (fun _ _ c => c)⟩
        obtain ⟨k, rfl⟩ := hk
        obtain ⟨m, hm⟩ : ∃ m, st.length = m + k := ⟨st.length - k, by omega⟩
        have cb' : ¬ ((m : Int) + (k : Int) < (k : Int)) := by omega
        have db : decide ((m : Int) + (k : Int) < (k : Int)) = false := decide_eq_false cb'
        obtain ⟨ob, hob⟩ : ∃ b, ownB kk tx = b := ⟨_, rfl⟩
        have HOW := Lib.hid (fun W => hob ▸ own0 kk tx W k3)
        have HOB := Lib.hid hob
        have HM := Lib.hid hm
        rw [hm]
        have hmk : m + k ≤ 1024 := by omega
        have hwm : IntKind.i64.wrap (m : Int) = (m : Int) := by rw [IntKind.wrap_i64]; omega
        have hw0 : IntKind.i64.wrap 0 = 0 := rfl
        have hmk1 : (m : Int) ≤ (m : Int) + (k : Int) := by omega
        have hm00 : (0 : Int) ≤ (m : Int) := by omega
        have HSL := Lib.hid (show m + k ≤ i from by rw [← hm]; exact hsl)
        clear hob cb hm hst hsl
        cases ob with
        | false =>
          have E := Lib.hid (HBAD.out (by unfold okR; dsimp only; rw [HOB.out, Bool.and_false]; rfl))
          go_wp2_with (go_at_call 90; refine (HAR.out _).mono ?_; rintro e w1 ⟨rfl, rfl⟩)
          refine wp_region_held_drew (S := fun w' => But No wr w') (by kernel_rfl) ((But.refl No wr).drewN 1) (fun hS => ?_)
          refine takeE 0 (some 21) rfl rfl (fun w e1 => by go_simp <;> (with_reducible rfl)) hS ?_
          simp only [putS]
          refine takeE 1 (some 22) rfl rfl (fun w e1 => by go_simp <;> (with_reducible rfl)) hS ?_
          simp only [putS]
          refine takeE 2 (some 23) rfl rfl (fun w e1 => by go_simp <;> (with_reducible rfl)) hS ?_
          simp only [putS]
          refine takeE 3 (some 24) rfl rfl (fun w e1 => by go_simp <;> (with_reducible rfl)) hS ?_
          simp only [putS]
          refine takeE 4 (some 25) rfl rfl (fun w e1 => by go_simp <;> (with_reducible rfl)) hS ?_
          simp only [putS]
          refine takeE 5 (some 26) rfl rfl (fun w e1 => by go_simp <;> (with_reducible rfl)) hS ?_
          simp only [putS]
          refine takeE 6 (some 27) rfl rfl (fun w e1 => by go_simp <;> (with_reducible rfl)) hS ?_
          simp only [putS]
          refine takeE 7 (some 28) rfl rfl (fun w e1 => by go_simp <;> (with_reducible rfl)) hS ?_
          simp only [putS]
          refine takeE 8 (some 29) rfl rfl (fun w e1 => by go_simp <;> (with_reducible rfl)) hS ?_
          simp only [putS]
          refine takeE 9 (some 30) rfl rfl (fun w e1 => by go_simp <;> (with_reducible rfl)) hS ?_
          simp only [putS]
          refine takeE 10 (some 31) rfl rfl (fun w e1 => by go_simp <;> (with_reducible rfl)) hS ?_
          simp only [putS]
          refine takeE 11 (some 32) rfl rfl (fun w e1 => by go_simp <;> (with_reducible rfl)) hS ?_
          simp only [putS]
          refine takeE 12 (some 33) rfl rfl (fun w e1 => by have z1 := e1.cell_some k1' (fun c => c); have z2 := e1.cell_some k2' (fun c => c); go_simp <;> (with_reducible rfl)) hS ?_
          simp only [putS]
          refine wpAnyH_ready (rs := [13]) (by kernel_rfl) (by simp) (AllReadyH.cons rfl (fun K13 hK13 => ?_) AllReadyH.nil)
          rw [if_pos (by kernel_rfl)]
          go_simp
          go_at_call 91
          refine (HOW.out _).mono ?_
          rintro e w8 ⟨rfl, hb8⟩
          have HC13 := Lib.hid (hS.trans hb8)
          clear hb8
          simp only []
          refine hK13.out _ _ HC13.out (fun hS => ?_)
          try simp only [putS, List.getElem_toArray, List.getElem_cons_zero, List.getElem_cons_succ]
          refine takeE 14 (some 35) rfl rfl (fun w e1 => by go_simp <;> (with_reducible rfl)) hS ?_
          simp only [putS]
          refine takeE 15 (some 36) rfl rfl (fun w e1 => by go_simp <;> (with_reducible rfl)) hS ?_
          simp only [putS]
          refine takeE 16 (some 37) rfl rfl (fun w e1 => by go_simp <;> (with_reducible rfl)) hS ?_
          simp only [putS]
          refine takeF 17 (some 38) rfl rfl hS ?_
          simp only [putS]
          refine takeF 18 (some 39) rfl rfl hS ?_
          simp only [putS]
          refine takeF 19 (some 40) rfl rfl hS ?_
          simp only [putS]
          refine takeF 20 (some 41) rfl rfl hS ?_
          simp only [putS]
          refine takeF 21 (some 42) rfl rfl hS ?_
          simp only [putS]
          refine takeF 22 (some 43) rfl rfl hS ?_
          simp only [putS]
          refine takeF 23 (some 44) rfl rfl hS ?_
          simp only [putS]
          refine takeF 24 (some 45) rfl rfl hS ?_
          simp only [putS]
          refine takeF 25 (some 46) rfl rfl hS ?_
          simp only [putS]
          refine takeF 26 (some 47) rfl rfl hS ?_
          simp only [putS]
          refine takeF 27 (some 48) rfl rfl hS ?_
          simp only [putS]
          refine takeF 28 (some 49) rfl rfl hS ?_
          simp only [putS]
          refine takeE 29 (some 50) rfl rfl (fun w e1 => by go_simp <;> (with_reducible rfl)) hS ?_
          simp only [putS]
          refine wpAnyH_done (by kernel_rfl) ?_ _
          go_wp2_with fail
          go_ret
          exact ⟨by rw [E.out]; rfl, HBt.out.trans_ hS (fun _ _ c => c)⟩
        | true =>
          obtain ⟨st0, l, e1, e2, e3⟩ : ∃ st0 l : List Sp, st = st0 ++ l ∧ st0.length = m ∧ l.length = k := ⟨st.take m, st.drop m, (List.take_append_drop m st).symm, by have := HM.out; simp; omega, by have := HM.out; simp; omega⟩
          have hk2 : k ≤ 2 := by rcases HAC.out with ⟨h, _⟩ | ⟨h, _⟩ | ⟨h, _⟩ | ⟨h, _⟩ <;> omega
          have h92 : kk = 9 ∨ kk = 10 → l.length = 2 := by rw [e3]; intro h; rcases HAC.out with ⟨h1, h2⟩ | ⟨h1, h2⟩ | ⟨h1, h2⟩ | ⟨h1, h2⟩ <;> omega
          have hX2 : F = if fitsB kk l = true then refR (t.drop (i + 1)) (st0 ++ [(kk, tx)]) else false := by
            rw [HX.out, HA.out, HM.out]
            have e4 : (m + k) - (k : Int).toNat = m := by omega
            rw [e4, e1, List.take_left' e2]
            have e5 : okR (kk, tx) (st0 ++ l) = fitsB kk l := by
              unfold okR
              dsimp only
              rw [HA.out, HOB.out, List.length_append, e2, e3, e4, List.drop_left' e2, decide_eq_true (show (0 : Int) ≤ (k : Int) by omega), decide_eq_true (show (k : Int) ≤ ((m + k : Nat) : Int) by omega)]
              simp
            rw [e5]
          obtain ⟨fb, hfb⟩ : ∃ b, fitsB kk l = b := ⟨_, rfl⟩
          rw [hfb] at hX2
          have HX2 := Lib.hid hX2
          have HFI : Hid (∀ A' c' W, k = 0 ∨ StepsIn wr A' l → But No wr W → Calls Try.prog 92 #[.agg #[.int .i64 kk, .string tx], .slice A' k c'] W fun e w' => e = .returned (.bool fb) ∧ But No W w') := Lib.hid (by
            intro A' c' W h hW
            have hin : StepsIn W A' l := by
              rcases h with h | h
              · intro i hi; omega
              · exact stepsIn_but h hW
            have := fits0 kk tx A' c' l W hin (by omega) h92 (fun q hq => HSS.out q (by rw [e1]; exact List.mem_append.2 (.inr hq)))
            rwa [hfb, e3] at this)
          have HE2 := Lib.hid e2
          have hs0 : ∀ q ∈ st0 ++ [(kk, tx)], q.2.size ≤ 9223372036854775807 := by
            intro q hq
            rcases List.mem_append.1 hq with h | h
            · exact HSS.out q (by rw [e1]; exact List.mem_append.2 (.inl h))
            · rw [List.mem_singleton.1 h]; exact k3
          have HS0 := Lib.hid hs0
          have hO := HO.out
          rcases hO.form with ⟨hv, hnil⟩ | ⟨g, c', hv, hg1, hg2, hg3, hg4⟩
          · injection hv with hA hB hC
            subst hA hC
            have hm0 := HM.out
            rw [hnil, List.length_nil] at hm0
            obtain rfl : m = 0 := by omega
            obtain rfl : k = 0 := by omega
            have hst0 : st0 = [] := List.eq_nil_of_length_eq_zero e2
            have HSE := Lib.hid hst0
            have HOn1 := Lib.hid (show stE.Own wr w.heap.size (.slice none 0 0) st0 from by rw [hst0]; exact El.own_nil _ _)
            clear hO hst0 e1 e2 e3 hnil hB hX2 hfb h92 hs0 hk2 hm0
            cases fb with
            | false =>
              have E := Lib.hid (show refOk t = false from by rw [HB.out, HX2.out]; rfl)
              go_wp2_with (go_at_call 90; refine (HAR.out _).mono ?_; rintro e w1 ⟨rfl, rfl⟩)
              refine wp_region_held_drew (S := fun w' => But No wr w') (by kernel_rfl) ((But.refl No wr).drewN 1) (fun hS => ?_)
              refine takeE 0 (some 21) rfl rfl (fun w e1 => by go_simp <;> (with_reducible rfl)) hS ?_
              simp only [putS]
              refine takeE 1 (some 22) rfl rfl (fun w e1 => by go_simp <;> (with_reducible rfl)) hS ?_
              simp only [putS]
              refine takeE 2 (some 23) rfl rfl (fun w e1 => by go_simp <;> (with_reducible rfl)) hS ?_
              simp only [putS]
              refine takeE 3 (some 24) rfl rfl (fun w e1 => by go_simp <;> (with_reducible rfl)) hS ?_
              simp only [putS]
              refine takeE 4 (some 25) rfl rfl (fun w e1 => by go_simp <;> (with_reducible rfl)) hS ?_
              simp only [putS]
              refine takeE 5 (some 26) rfl rfl (fun w e1 => by go_simp <;> (with_reducible rfl)) hS ?_
              simp only [putS]
              refine takeE 6 (some 27) rfl rfl (fun w e1 => by go_simp <;> (with_reducible rfl)) hS ?_
              simp only [putS]
              refine takeE 7 (some 28) rfl rfl (fun w e1 => by go_simp <;> (with_reducible rfl)) hS ?_
              simp only [putS]
              refine takeE 8 (some 29) rfl rfl (fun w e1 => by go_simp <;> (with_reducible rfl)) hS ?_
              simp only [putS]
              refine takeE 9 (some 30) rfl rfl (fun w e1 => by go_simp <;> (with_reducible rfl)) hS ?_
              simp only [putS]
              refine takeE 10 (some 31) rfl rfl (fun w e1 => by go_simp <;> (with_reducible rfl)) hS ?_
              simp only [putS]
              refine takeE 11 (some 32) rfl rfl (fun w e1 => by go_simp <;> (with_reducible rfl)) hS ?_
              simp only [putS]
              refine takeE 12 (some 33) rfl rfl (fun w e1 => by have z1 := e1.cell_some k1' (fun c => c); have z2 := e1.cell_some k2' (fun c => c); go_simp <;> (with_reducible rfl)) hS ?_
              simp only [putS]
              refine wpAnyH_ready (rs := [13]) (by kernel_rfl) (by simp) (AllReadyH.cons rfl (fun K13 hK13 => ?_) AllReadyH.nil)
              rw [if_pos (by kernel_rfl)]
              go_simp
              go_at_call 91
              refine (HOW.out _).mono ?_
              rintro e w8 ⟨rfl, hb8⟩
              have HC13 := Lib.hid (hS.trans hb8)
              clear hb8
              simp only []
              refine hK13.out _ _ HC13.out (fun hS => ?_)
              try simp only [putS, List.getElem_toArray, List.getElem_cons_zero, List.getElem_cons_succ]
              refine takeE 14 (some 35) rfl rfl (fun w e1 => by go_simp <;> (with_reducible rfl)) hS ?_
              simp only [putS]
              refine takeE 15 (some 36) rfl rfl (fun w e1 => by go_simp <;> (with_reducible rfl)) hS ?_
              simp only [putS]
              refine takeE 16 (some 37) rfl rfl (fun w e1 => by go_simp <;> (with_reducible rfl)) hS ?_
              simp only [putS]
              refine takeE 17 (some 38) rfl rfl (fun w e1 => by go_simp <;> (with_reducible rfl)) hS ?_
              simp only [putS]
              refine takeE 18 (some 39) rfl rfl (fun w e1 => by go_simp <;> (with_reducible rfl)) hS ?_
              simp only [putS]
              refine takeE 19 (some 40) rfl rfl (fun w e1 => by go_simp <;> (with_reducible rfl)) hS ?_
              simp only [putS]
              refine takeE 20 (some 41) rfl rfl (fun w e1 => by have z1 := e1.cell_some k1' (fun c => c); have z2 := e1.cell_some k2' (fun c => c); go_simp <;> (with_reducible rfl)) hS ?_
              simp only [putS]
              refine takeE 21 (some 42) rfl rfl (fun w e1 => by go_simp <;> (with_reducible rfl)) hS ?_
              simp only [putS]
              refine takeE 22 (some 43) rfl rfl (fun w e1 => by go_simp <;> (with_reducible rfl)) hS ?_
              simp only [putS]
              refine takeE 23 (some 44) rfl rfl (fun w e1 => by go_simp <;> (with_reducible rfl)) hS ?_
              simp only [putS]
              refine takeE 24 (some 45) rfl rfl (fun w e1 => by go_simp <;> (with_reducible rfl)) hS ?_
              simp only [putS]
              refine takeE 25 (some 46) rfl rfl (fun w e1 => by go_simp <;> (with_reducible rfl)) hS ?_
              simp only [putS]
              refine takeE 26 (some 47) rfl rfl (fun w e1 => by go_simp <;> (with_reducible rfl)) hS ?_
              simp only [putS]
              refine wpAnyH_ready (rs := [27]) (by kernel_rfl) (by simp) (AllReadyH.cons rfl (fun K27 hK27 => ?_) AllReadyH.nil)
              rw [if_pos (by kernel_rfl)]
              go_simp
              go_at_call 92
              refine (HFI.out _ _ _ (by first | exact .inl rfl | exact .inl trivial | exact .inr HIN.out) hS).mono ?_
              rintro e w9 ⟨rfl, hb9⟩
              have HC27 := Lib.hid (hS.trans hb9)
              clear hb9
              simp only []
              refine hK27.out _ _ HC27.out (fun hS => ?_)
              try simp only [putS, List.getElem_toArray, List.getElem_cons_zero, List.getElem_cons_succ]
              refine takeE 28 (some 49) rfl rfl (fun w e1 => by go_simp <;> (with_reducible rfl)) hS ?_
              simp only [putS]
              refine takeE 29 (some 50) rfl rfl (fun w e1 => by go_simp <;> (with_reducible rfl)) hS ?_
              simp only [putS]
              refine wpAnyH_done (by kernel_rfl) ?_ _
              go_wp2_with fail
              go_ret
              exact ⟨by rw [E.out]; rfl, HBt.out.trans hS⟩
            | true =>
              have hR2 := HX2.out
              rw [if_pos rfl] at hR2
              have HR2 := Lib.hid hR2
              clear hR2
              go_wp2_with (go_at_call 90; refine (HAR.out _).mono ?_; rintro e w1 ⟨rfl, rfl⟩)
              refine wp_region_held_drew (S := fun w' => But No wr w') (by kernel_rfl) ((But.refl No wr).drewN 1) (fun hS => ?_)
              refine takeE 0 (some 21) rfl rfl (fun w e1 => by go_simp <;> (with_reducible rfl)) hS ?_
              simp only [putS]
              refine takeE 1 (some 22) rfl rfl (fun w e1 => by go_simp <;> (with_reducible rfl)) hS ?_
              simp only [putS]
              refine takeE 2 (some 23) rfl rfl (fun w e1 => by go_simp <;> (with_reducible rfl)) hS ?_
              simp only [putS]
              refine takeE 3 (some 24) rfl rfl (fun w e1 => by go_simp <;> (with_reducible rfl)) hS ?_
              simp only [putS]
              refine takeE 4 (some 25) rfl rfl (fun w e1 => by go_simp <;> (with_reducible rfl)) hS ?_
              simp only [putS]
              refine takeE 5 (some 26) rfl rfl (fun w e1 => by go_simp <;> (with_reducible rfl)) hS ?_
              simp only [putS]
              refine takeE 6 (some 27) rfl rfl (fun w e1 => by go_simp <;> (with_reducible rfl)) hS ?_
              simp only [putS]
              refine takeE 7 (some 28) rfl rfl (fun w e1 => by go_simp <;> (with_reducible rfl)) hS ?_
              simp only [putS]
              refine takeE 8 (some 29) rfl rfl (fun w e1 => by go_simp <;> (with_reducible rfl)) hS ?_
              simp only [putS]
              refine takeE 9 (some 30) rfl rfl (fun w e1 => by go_simp <;> (with_reducible rfl)) hS ?_
              simp only [putS]
              refine takeE 10 (some 31) rfl rfl (fun w e1 => by go_simp <;> (with_reducible rfl)) hS ?_
              simp only [putS]
              refine takeE 11 (some 32) rfl rfl (fun w e1 => by go_simp <;> (with_reducible rfl)) hS ?_
              simp only [putS]
              refine takeE 12 (some 33) rfl rfl (fun w e1 => by have z1 := e1.cell_some k1' (fun c => c); have z2 := e1.cell_some k2' (fun c => c); go_simp <;> (with_reducible rfl)) hS ?_
              simp only [putS]
              refine wpAnyH_ready (rs := [13]) (by kernel_rfl) (by simp) (AllReadyH.cons rfl (fun K13 hK13 => ?_) AllReadyH.nil)
              rw [if_pos (by kernel_rfl)]
              go_simp
              go_at_call 91
              refine (HOW.out _).mono ?_
              rintro e w8 ⟨rfl, hb8⟩
              have HC13 := Lib.hid (hS.trans hb8)
              clear hb8
              simp only []
              refine hK13.out _ _ HC13.out (fun hS => ?_)
              try simp only [putS, List.getElem_toArray, List.getElem_cons_zero, List.getElem_cons_succ]
              refine takeE 14 (some 35) rfl rfl (fun w e1 => by go_simp <;> (with_reducible rfl)) hS ?_
              simp only [putS]
              refine takeE 15 (some 36) rfl rfl (fun w e1 => by go_simp <;> (with_reducible rfl)) hS ?_
              simp only [putS]
              refine takeE 16 (some 37) rfl rfl (fun w e1 => by go_simp <;> (with_reducible rfl)) hS ?_
              simp only [putS]
              refine takeE 17 (some 38) rfl rfl (fun w e1 => by go_simp <;> (with_reducible rfl)) hS ?_
              simp only [putS]
              refine takeE 18 (some 39) rfl rfl (fun w e1 => by go_simp <;> (with_reducible rfl)) hS ?_
              simp only [putS]
              refine takeE 19 (some 40) rfl rfl (fun w e1 => by go_simp <;> (with_reducible rfl)) hS ?_
              simp only [putS]
              refine takeE 20 (some 41) rfl rfl (fun w e1 => by have z1 := e1.cell_some k1' (fun c => c); have z2 := e1.cell_some k2' (fun c => c); go_simp <;> (with_reducible rfl)) hS ?_
              simp only [putS]
              refine takeE 21 (some 42) rfl rfl (fun w e1 => by go_simp <;> (with_reducible rfl)) hS ?_
              simp only [putS]
              refine takeE 22 (some 43) rfl rfl (fun w e1 => by go_simp <;> (with_reducible rfl)) hS ?_
              simp only [putS]
              refine takeE 23 (some 44) rfl rfl (fun w e1 => by go_simp <;> (with_reducible rfl)) hS ?_
              simp only [putS]
              refine takeE 24 (some 45) rfl rfl (fun w e1 => by go_simp <;> (with_reducible rfl)) hS ?_
              simp only [putS]
              refine takeE 25 (some 46) rfl rfl (fun w e1 => by go_simp <;> (with_reducible rfl)) hS ?_
              simp only [putS]
              refine takeE 26 (some 47) rfl rfl (fun w e1 => by go_simp <;> (with_reducible rfl)) hS ?_
              simp only [putS]
              refine wpAnyH_ready (rs := [27]) (by kernel_rfl) (by simp) (AllReadyH.cons rfl (fun K27 hK27 => ?_) AllReadyH.nil)
              rw [if_pos (by kernel_rfl)]
              go_simp
              go_at_call 92
              refine (HFI.out _ _ _ (by first | exact .inl rfl | exact .inl trivial | exact .inr HIN.out) hS).mono ?_
              rintro e w9 ⟨rfl, hb9⟩
              have HC27 := Lib.hid (hS.trans hb9)
              clear hb9
              simp only []
              refine hK27.out _ _ HC27.out (fun hS => ?_)
              try simp only [putS, List.getElem_toArray, List.getElem_cons_zero, List.getElem_cons_succ]
              refine takeE 28 (some 49) rfl rfl (fun w e1 => by go_simp <;> (with_reducible rfl)) hS ?_
              simp only [putS]
              refine takeE 29 (some 50) rfl rfl (fun w e1 => by go_simp <;> (with_reducible rfl)) hS ?_
              simp only [putS]
              refine wpAnyH_done (by kernel_rfl) ?_ _
              have k1'' := hS.cell_some k1' (fun c => c)
              have k2'' := hS.cell_some k2' (fun c => c)
              have HSW := Lib.hid hS
              clear hS k1' k2'
              go_upto_region 10 with (fail)
              go_region_law ((refine stE.step1 rfl _ _ rfl rfl w.heap.size (.slice none 0 0) st0 rfl (((HOn1.out.new HSW.out).alloc _).drew) w9.heap.size (kk, tx) #[.int .i64 kk, .string tx] rfl rfl (heap_alloc_new w9 _) (by show (st0.length + 1) * (24 + 1) ≤ _; have := HE2.out; omega) (by have := HSW.out.size; have := HBt.out.size; simp; omega) ?_; intro g2 c2 w2 hown hgrow; rw [HE2.out] at hown; rw [HE2.out]))
              have HB2 := Lib.hid (El.Own.grown (((HBt.out.trans HSW.out).alloc _).drew) (((HOn1.out.new HSW.out).alloc _).drew) hgrow (Nat.le_refl _))
              have HO2 := Lib.hid hown
              clear hown hgrow
              go_wp2_with fail
              go_roundg (t.length - (i + 1))
              case measure => rw [HGK.out]; omega
              case rel => exact ⟨i + 1, st0 ++ [(kk, tx)], rfl, by omega, by go_num, HB2.out, HO2.out, by have h1 := HSL.out; have h2 := HE2.out; simp only [List.length_append, List.length_singleton]; omega, HS0.out, HR2.out.symm⟩
          · injection hv with hA hB hC
            subst hA hC
            rw [e1] at hO
            have hin := parts_in hO
            have hsh := hO.shrink
            rw [e2] at hin hsh
            have HIN := Lib.hid hin
            have HSH := Lib.hid hsh
            have hmc : m + k ≤ c3 := by have := HM.out; omega
            have hmci : (m : Int) ≤ (c3 : Int) := by omega
            have hcc : (c3 = m ∧ k = 0) ∨ ¬ c3 = m := by omega
            clear hO hin hsh e1 e2 e3 hB hX2 hfb h92 hs0
            rcases hcc with ⟨rfl, rfl⟩ | hcm
            · cases fb with
              | false =>
                have E := Lib.hid (show refOk t = false from by rw [HB.out, HX2.out]; rfl)
                go_wp2_with (go_at_call 90; refine (HAR.out _).mono ?_; rintro e w1 ⟨rfl, rfl⟩)
                refine wp_region_held_drew (S := fun w' => But No wr w') (by kernel_rfl) ((But.refl No wr).drewN 1) (fun hS => ?_)
                refine takeE 0 (some 21) rfl rfl (fun w e1 => by go_simp <;> (with_reducible rfl)) hS ?_
                simp only [putS]
                refine takeE 1 (some 22) rfl rfl (fun w e1 => by go_simp <;> (with_reducible rfl)) hS ?_
                simp only [putS]
                refine takeE 2 (some 23) rfl rfl (fun w e1 => by go_simp <;> (with_reducible rfl)) hS ?_
                simp only [putS]
                refine takeE 3 (some 24) rfl rfl (fun w e1 => by go_simp <;> (with_reducible rfl)) hS ?_
                simp only [putS]
                refine takeE 4 (some 25) rfl rfl (fun w e1 => by go_simp <;> (with_reducible rfl)) hS ?_
                simp only [putS]
                refine takeE 5 (some 26) rfl rfl (fun w e1 => by go_simp <;> (with_reducible rfl)) hS ?_
                simp only [putS]
                refine takeE 6 (some 27) rfl rfl (fun w e1 => by go_simp <;> (with_reducible rfl)) hS ?_
                simp only [putS]
                refine takeE 7 (some 28) rfl rfl (fun w e1 => by go_simp <;> (with_reducible rfl)) hS ?_
                simp only [putS]
                refine takeE 8 (some 29) rfl rfl (fun w e1 => by go_simp <;> (with_reducible rfl)) hS ?_
                simp only [putS]
                refine takeE 9 (some 30) rfl rfl (fun w e1 => by go_simp <;> (with_reducible rfl)) hS ?_
                simp only [putS]
                refine takeE 10 (some 31) rfl rfl (fun w e1 => by go_simp <;> (with_reducible rfl)) hS ?_
                simp only [putS]
                refine takeE 11 (some 32) rfl rfl (fun w e1 => by go_simp <;> (with_reducible rfl)) hS ?_
                simp only [putS]
                refine takeE 12 (some 33) rfl rfl (fun w e1 => by have z1 := e1.cell_some k1' (fun c => c); have z2 := e1.cell_some k2' (fun c => c); go_simp <;> (with_reducible rfl)) hS ?_
                simp only [putS]
                refine wpAnyH_ready (rs := [13]) (by kernel_rfl) (by simp) (AllReadyH.cons rfl (fun K13 hK13 => ?_) AllReadyH.nil)
                rw [if_pos (by kernel_rfl)]
                go_simp
                go_at_call 91
                refine (HOW.out _).mono ?_
                rintro e w8 ⟨rfl, hb8⟩
                have HC13 := Lib.hid (hS.trans hb8)
                clear hb8
                simp only []
                refine hK13.out _ _ HC13.out (fun hS => ?_)
                try simp only [putS, List.getElem_toArray, List.getElem_cons_zero, List.getElem_cons_succ]
                refine takeE 14 (some 35) rfl rfl (fun w e1 => by go_simp <;> (with_reducible rfl)) hS ?_
                simp only [putS]
                refine takeE 15 (some 36) rfl rfl (fun w e1 => by go_simp <;> (with_reducible rfl)) hS ?_
                simp only [putS]
                refine takeE 16 (some 37) rfl rfl (fun w e1 => by go_simp <;> (with_reducible rfl)) hS ?_
                simp only [putS]
                refine takeE 17 (some 38) rfl rfl (fun w e1 => by go_simp <;> (with_reducible rfl)) hS ?_
                simp only [putS]
                refine takeE 18 (some 39) rfl rfl (fun w e1 => by go_simp <;> (with_reducible rfl)) hS ?_
                simp only [putS]
                refine takeE 19 (some 40) rfl rfl (fun w e1 => by go_simp <;> (with_reducible rfl)) hS ?_
                simp only [putS]
                refine takeE 20 (some 41) rfl rfl (fun w e1 => by have z1 := e1.cell_some k1' (fun c => c); have z2 := e1.cell_some k2' (fun c => c); go_simp <;> (with_reducible rfl)) hS ?_
                simp only [putS]
                refine takeE 21 (some 42) rfl rfl (fun w e1 => by go_simp <;> (with_reducible rfl)) hS ?_
                simp only [putS]
                refine takeE 22 (some 43) rfl rfl (fun w e1 => by go_simp <;> (with_reducible rfl)) hS ?_
                simp only [putS]
                refine takeE 23 (some 44) rfl rfl (fun w e1 => by go_simp <;> (with_reducible rfl)) hS ?_
                simp only [putS]
                refine takeE 24 (some 45) rfl rfl (fun w e1 => by go_simp <;> (with_reducible rfl)) hS ?_
                simp only [putS]
                refine takeE 25 (some 46) rfl rfl (fun w e1 => by go_simp <;> (with_reducible rfl)) hS ?_
                simp only [putS]
                refine takeE 26 (some 47) rfl rfl (fun w e1 => by go_simp <;> (with_reducible rfl)) hS ?_
                simp only [putS]
                refine wpAnyH_ready (rs := [27]) (by kernel_rfl) (by simp) (AllReadyH.cons rfl (fun K27 hK27 => ?_) AllReadyH.nil)
                rw [if_pos (by kernel_rfl)]
                go_simp
                go_at_call 92
                refine (HFI.out _ _ _ (by first | exact .inl rfl | exact .inl trivial | exact .inr HIN.out) hS).mono ?_
                rintro e w9 ⟨rfl, hb9⟩
                have HC27 := Lib.hid (hS.trans hb9)
                clear hb9
                simp only []
                refine hK27.out _ _ HC27.out (fun hS => ?_)
                try simp only [putS, List.getElem_toArray, List.getElem_cons_zero, List.getElem_cons_succ]
                refine takeE 28 (some 49) rfl rfl (fun w e1 => by go_simp <;> (with_reducible rfl)) hS ?_
                simp only [putS]
                refine takeE 29 (some 50) rfl rfl (fun w e1 => by go_simp <;> (with_reducible rfl)) hS ?_
                simp only [putS]
                refine wpAnyH_done (by kernel_rfl) ?_ _
                go_wp2_with fail
                go_ret
                exact ⟨by rw [E.out]; rfl, HBt.out.trans hS⟩
              | true =>
                have hR2 := HX2.out
                rw [if_pos rfl] at hR2
                have HR2 := Lib.hid hR2
                clear hR2
                go_wp2_with (go_at_call 90; refine (HAR.out _).mono ?_; rintro e w1 ⟨rfl, rfl⟩)
                refine wp_region_held_drew (S := fun w' => But No wr w') (by kernel_rfl) ((But.refl No wr).drewN 1) (fun hS => ?_)
                refine takeE 0 (some 21) rfl rfl (fun w e1 => by go_simp <;> (with_reducible rfl)) hS ?_
                simp only [putS]
                refine takeE 1 (some 22) rfl rfl (fun w e1 => by go_simp <;> (with_reducible rfl)) hS ?_
                simp only [putS]
                refine takeE 2 (some 23) rfl rfl (fun w e1 => by go_simp <;> (with_reducible rfl)) hS ?_
                simp only [putS]
                refine takeE 3 (some 24) rfl rfl (fun w e1 => by go_simp <;> (with_reducible rfl)) hS ?_
                simp only [putS]
                refine takeE 4 (some 25) rfl rfl (fun w e1 => by go_simp <;> (with_reducible rfl)) hS ?_
                simp only [putS]
                refine takeE 5 (some 26) rfl rfl (fun w e1 => by go_simp <;> (with_reducible rfl)) hS ?_
                simp only [putS]
                refine takeE 6 (some 27) rfl rfl (fun w e1 => by go_simp <;> (with_reducible rfl)) hS ?_
                simp only [putS]
                refine takeE 7 (some 28) rfl rfl (fun w e1 => by go_simp <;> (with_reducible rfl)) hS ?_
                simp only [putS]
                refine takeE 8 (some 29) rfl rfl (fun w e1 => by go_simp <;> (with_reducible rfl)) hS ?_
                simp only [putS]
                refine takeE 9 (some 30) rfl rfl (fun w e1 => by go_simp <;> (with_reducible rfl)) hS ?_
                simp only [putS]
                refine takeE 10 (some 31) rfl rfl (fun w e1 => by go_simp <;> (with_reducible rfl)) hS ?_
                simp only [putS]
                refine takeE 11 (some 32) rfl rfl (fun w e1 => by go_simp <;> (with_reducible rfl)) hS ?_
                simp only [putS]
                refine takeE 12 (some 33) rfl rfl (fun w e1 => by have z1 := e1.cell_some k1' (fun c => c); have z2 := e1.cell_some k2' (fun c => c); go_simp <;> (with_reducible rfl)) hS ?_
                simp only [putS]
                refine wpAnyH_ready (rs := [13]) (by kernel_rfl) (by simp) (AllReadyH.cons rfl (fun K13 hK13 => ?_) AllReadyH.nil)
                rw [if_pos (by kernel_rfl)]
                go_simp
                go_at_call 91
                refine (HOW.out _).mono ?_
                rintro e w8 ⟨rfl, hb8⟩
                have HC13 := Lib.hid (hS.trans hb8)
                clear hb8
                simp only []
                refine hK13.out _ _ HC13.out (fun hS => ?_)
                try simp only [putS, List.getElem_toArray, List.getElem_cons_zero, List.getElem_cons_succ]
                refine takeE 14 (some 35) rfl rfl (fun w e1 => by go_simp <;> (with_reducible rfl)) hS ?_
                simp only [putS]
                refine takeE 15 (some 36) rfl rfl (fun w e1 => by go_simp <;> (with_reducible rfl)) hS ?_
                simp only [putS]
                refine takeE 16 (some 37) rfl rfl (fun w e1 => by go_simp <;> (with_reducible rfl)) hS ?_
                simp only [putS]
                refine takeE 17 (some 38) rfl rfl (fun w e1 => by go_simp <;> (with_reducible rfl)) hS ?_
                simp only [putS]
                refine takeE 18 (some 39) rfl rfl (fun w e1 => by go_simp <;> (with_reducible rfl)) hS ?_
                simp only [putS]
                refine takeE 19 (some 40) rfl rfl (fun w e1 => by go_simp <;> (with_reducible rfl)) hS ?_
                simp only [putS]
                refine takeE 20 (some 41) rfl rfl (fun w e1 => by have z1 := e1.cell_some k1' (fun c => c); have z2 := e1.cell_some k2' (fun c => c); go_simp <;> (with_reducible rfl)) hS ?_
                simp only [putS]
                refine takeE 21 (some 42) rfl rfl (fun w e1 => by go_simp <;> (with_reducible rfl)) hS ?_
                simp only [putS]
                refine takeE 22 (some 43) rfl rfl (fun w e1 => by go_simp <;> (with_reducible rfl)) hS ?_
                simp only [putS]
                refine takeE 23 (some 44) rfl rfl (fun w e1 => by go_simp <;> (with_reducible rfl)) hS ?_
                simp only [putS]
                refine takeE 24 (some 45) rfl rfl (fun w e1 => by go_simp <;> (with_reducible rfl)) hS ?_
                simp only [putS]
                refine takeE 25 (some 46) rfl rfl (fun w e1 => by go_simp <;> (with_reducible rfl)) hS ?_
                simp only [putS]
                refine takeE 26 (some 47) rfl rfl (fun w e1 => by go_simp <;> (with_reducible rfl)) hS ?_
                simp only [putS]
                refine wpAnyH_ready (rs := [27]) (by kernel_rfl) (by simp) (AllReadyH.cons rfl (fun K27 hK27 => ?_) AllReadyH.nil)
                rw [if_pos (by kernel_rfl)]
                go_simp
                go_at_call 92
                refine (HFI.out _ _ _ (by first | exact .inl rfl | exact .inl trivial | exact .inr HIN.out) hS).mono ?_
                rintro e w9 ⟨rfl, hb9⟩
                have HC27 := Lib.hid (hS.trans hb9)
                clear hb9
                simp only []
                refine hK27.out _ _ HC27.out (fun hS => ?_)
                try simp only [putS, List.getElem_toArray, List.getElem_cons_zero, List.getElem_cons_succ]
                refine takeE 28 (some 49) rfl rfl (fun w e1 => by go_simp <;> (with_reducible rfl)) hS ?_
                simp only [putS]
                refine takeE 29 (some 50) rfl rfl (fun w e1 => by go_simp <;> (with_reducible rfl)) hS ?_
                simp only [putS]
                refine wpAnyH_done (by kernel_rfl) ?_ _
                have k1'' := hS.cell_some k1' (fun c => c)
                have k2'' := hS.cell_some k2' (fun c => c)
                have HSW := Lib.hid hS
                clear hS k1' k2'
                go_upto_region 10 with (fail)
                go_region_law ((refine stE.step1 rfl _ _ rfl rfl w.heap.size (.slice (some ⟨g, 0, none⟩) c3 c3) st0 rfl (((HSH.out.new HSW.out).alloc _).drew) w9.heap.size (kk, tx) #[.int .i64 kk, .string tx] rfl rfl (heap_alloc_new w9 _) (by show (st0.length + 1) * (24 + 1) ≤ _; have := HE2.out; omega) (by have := HSW.out.size; have := HBt.out.size; simp; omega) ?_; intro g2 c2 w2 hown hgrow; rw [HE2.out] at hown; rw [HE2.out]))
                have HB2 := Lib.hid (El.Own.grown (((HBt.out.trans HSW.out).alloc _).drew) (((HSH.out.new HSW.out).alloc _).drew) hgrow (Nat.le_refl _))
                have HO2 := Lib.hid hown
                clear hown hgrow
                go_wp2_with fail
                go_roundg (t.length - (i + 1))
                case measure => rw [HGK.out]; omega
                case rel => exact ⟨i + 1, st0 ++ [(kk, tx)], rfl, by omega, by go_num, HB2.out, HO2.out, by have h1 := HSL.out; have h2 := HE2.out; simp only [List.length_append, List.length_singleton]; omega, HS0.out, HR2.out.symm⟩
            · cases fb with
              | false =>
                have E := Lib.hid (show refOk t = false from by rw [HB.out, HX2.out]; rfl)
                go_wp2_with (go_at_call 90; refine (HAR.out _).mono ?_; rintro e w1 ⟨rfl, rfl⟩)
                refine wp_region_held_drew (S := fun w' => But No wr w') (by kernel_rfl) ((But.refl No wr).drewN 1) (fun hS => ?_)
                refine takeE 0 (some 21) rfl rfl (fun w e1 => by go_simp <;> (with_reducible rfl)) hS ?_
                simp only [putS]
                refine takeE 1 (some 22) rfl rfl (fun w e1 => by go_simp <;> (with_reducible rfl)) hS ?_
                simp only [putS]
                refine takeE 2 (some 23) rfl rfl (fun w e1 => by go_simp <;> (with_reducible rfl)) hS ?_
                simp only [putS]
                refine takeE 3 (some 24) rfl rfl (fun w e1 => by go_simp <;> (with_reducible rfl)) hS ?_
                simp only [putS]
                refine takeE 4 (some 25) rfl rfl (fun w e1 => by go_simp <;> (with_reducible rfl)) hS ?_
                simp only [putS]
                refine takeE 5 (some 26) rfl rfl (fun w e1 => by go_simp <;> (with_reducible rfl)) hS ?_
                simp only [putS]
                refine takeE 6 (some 27) rfl rfl (fun w e1 => by go_simp <;> (with_reducible rfl)) hS ?_
                simp only [putS]
                refine takeE 7 (some 28) rfl rfl (fun w e1 => by go_simp <;> (with_reducible rfl)) hS ?_
                simp only [putS]
                refine takeE 8 (some 29) rfl rfl (fun w e1 => by go_simp <;> (with_reducible rfl)) hS ?_
                simp only [putS]
                refine takeE 9 (some 30) rfl rfl (fun w e1 => by go_simp <;> (with_reducible rfl)) hS ?_
                simp only [putS]
                refine takeE 10 (some 31) rfl rfl (fun w e1 => by go_simp <;> (with_reducible rfl)) hS ?_
                simp only [putS]
                refine takeE 11 (some 32) rfl rfl (fun w e1 => by go_simp <;> (with_reducible rfl)) hS ?_
                simp only [putS]
                refine takeE 12 (some 33) rfl rfl (fun w e1 => by have z1 := e1.cell_some k1' (fun c => c); have z2 := e1.cell_some k2' (fun c => c); go_simp <;> (with_reducible rfl)) hS ?_
                simp only [putS]
                refine wpAnyH_ready (rs := [13]) (by kernel_rfl) (by simp) (AllReadyH.cons rfl (fun K13 hK13 => ?_) AllReadyH.nil)
                rw [if_pos (by kernel_rfl)]
                go_simp
                go_at_call 91
                refine (HOW.out _).mono ?_
                rintro e w8 ⟨rfl, hb8⟩
                have HC13 := Lib.hid (hS.trans hb8)
                clear hb8
                simp only []
                refine hK13.out _ _ HC13.out (fun hS => ?_)
                try simp only [putS, List.getElem_toArray, List.getElem_cons_zero, List.getElem_cons_succ]
                refine takeE 14 (some 35) rfl rfl (fun w e1 => by go_simp <;> (with_reducible rfl)) hS ?_
                simp only [putS]
                refine takeE 15 (some 36) rfl rfl (fun w e1 => by go_simp <;> (with_reducible rfl)) hS ?_
                simp only [putS]
                refine takeE 16 (some 37) rfl rfl (fun w e1 => by go_simp <;> (with_reducible rfl)) hS ?_
                simp only [putS]
                refine takeE 17 (some 38) rfl rfl (fun w e1 => by go_simp <;> (with_reducible rfl)) hS ?_
                simp only [putS]
                refine takeE 18 (some 39) rfl rfl (fun w e1 => by go_simp <;> (with_reducible rfl)) hS ?_
                simp only [putS]
                refine takeE 19 (some 40) rfl rfl (fun w e1 => by go_simp <;> (with_reducible rfl)) hS ?_
                simp only [putS]
                refine takeE 20 (some 41) rfl rfl (fun w e1 => by have z1 := e1.cell_some k1' (fun c => c); have z2 := e1.cell_some k2' (fun c => c); go_simp <;> (with_reducible rfl)) hS ?_
                simp only [putS]
                refine takeE 21 (some 42) rfl rfl (fun w e1 => by go_simp <;> (with_reducible rfl)) hS ?_
                simp only [putS]
                refine takeE 22 (some 43) rfl rfl (fun w e1 => by go_simp <;> (with_reducible rfl)) hS ?_
                simp only [putS]
                refine takeE 23 (some 44) rfl rfl (fun w e1 => by go_simp <;> (with_reducible rfl)) hS ?_
                simp only [putS]
                refine takeE 24 (some 45) rfl rfl (fun w e1 => by go_simp <;> (with_reducible rfl)) hS ?_
                simp only [putS]
                refine takeE 25 (some 46) rfl rfl (fun w e1 => by go_simp <;> (with_reducible rfl)) hS ?_
                simp only [putS]
                refine takeE 26 (some 47) rfl rfl (fun w e1 => by go_simp <;> (with_reducible rfl)) hS ?_
                simp only [putS]
                refine wpAnyH_ready (rs := [27]) (by kernel_rfl) (by simp) (AllReadyH.cons rfl (fun K27 hK27 => ?_) AllReadyH.nil)
                rw [if_pos (by kernel_rfl)]
                go_simp
                go_at_call 92
                refine (HFI.out _ _ _ (by first | exact .inl rfl | exact .inl trivial | exact .inr HIN.out) hS).mono ?_
                rintro e w9 ⟨rfl, hb9⟩
                have HC27 := Lib.hid (hS.trans hb9)
                clear hb9
                simp only []
                refine hK27.out _ _ HC27.out (fun hS => ?_)
                try simp only [putS, List.getElem_toArray, List.getElem_cons_zero, List.getElem_cons_succ]
                refine takeE 28 (some 49) rfl rfl (fun w e1 => by go_simp <;> (with_reducible rfl)) hS ?_
                simp only [putS]
                refine takeE 29 (some 50) rfl rfl (fun w e1 => by go_simp <;> (with_reducible rfl)) hS ?_
                simp only [putS]
                refine wpAnyH_done (by kernel_rfl) ?_ _
                go_wp2_with fail
                go_ret
                exact ⟨by rw [E.out]; rfl, HBt.out.trans hS⟩
              | true =>
                have hR2 := HX2.out
                rw [if_pos rfl] at hR2
                have HR2 := Lib.hid hR2
                clear hR2
                go_wp2_with (go_at_call 90; refine (HAR.out _).mono ?_; rintro e w1 ⟨rfl, rfl⟩)
                refine wp_region_held_drew (S := fun w' => But No wr w') (by kernel_rfl) ((But.refl No wr).drewN 1) (fun hS => ?_)
                refine takeE 0 (some 21) rfl rfl (fun w e1 => by go_simp <;> (with_reducible rfl)) hS ?_
                simp only [putS]
                refine takeE 1 (some 22) rfl rfl (fun w e1 => by go_simp <;> (with_reducible rfl)) hS ?_
                simp only [putS]
                refine takeE 2 (some 23) rfl rfl (fun w e1 => by go_simp <;> (with_reducible rfl)) hS ?_
                simp only [putS]
                refine takeE 3 (some 24) rfl rfl (fun w e1 => by go_simp <;> (with_reducible rfl)) hS ?_
                simp only [putS]
                refine takeE 4 (some 25) rfl rfl (fun w e1 => by go_simp <;> (with_reducible rfl)) hS ?_
                simp only [putS]
                refine takeE 5 (some 26) rfl rfl (fun w e1 => by go_simp <;> (with_reducible rfl)) hS ?_
                simp only [putS]
                refine takeE 6 (some 27) rfl rfl (fun w e1 => by go_simp <;> (with_reducible rfl)) hS ?_
                simp only [putS]
                refine takeE 7 (some 28) rfl rfl (fun w e1 => by go_simp <;> (with_reducible rfl)) hS ?_
                simp only [putS]
                refine takeE 8 (some 29) rfl rfl (fun w e1 => by go_simp <;> (with_reducible rfl)) hS ?_
                simp only [putS]
                refine takeE 9 (some 30) rfl rfl (fun w e1 => by go_simp <;> (with_reducible rfl)) hS ?_
                simp only [putS]
                refine takeE 10 (some 31) rfl rfl (fun w e1 => by go_simp <;> (with_reducible rfl)) hS ?_
                simp only [putS]
                refine takeE 11 (some 32) rfl rfl (fun w e1 => by go_simp <;> (with_reducible rfl)) hS ?_
                simp only [putS]
                refine takeE 12 (some 33) rfl rfl (fun w e1 => by have z1 := e1.cell_some k1' (fun c => c); have z2 := e1.cell_some k2' (fun c => c); go_simp <;> (with_reducible rfl)) hS ?_
                simp only [putS]
                refine wpAnyH_ready (rs := [13]) (by kernel_rfl) (by simp) (AllReadyH.cons rfl (fun K13 hK13 => ?_) AllReadyH.nil)
                rw [if_pos (by kernel_rfl)]
                go_simp
                go_at_call 91
                refine (HOW.out _).mono ?_
                rintro e w8 ⟨rfl, hb8⟩
                have HC13 := Lib.hid (hS.trans hb8)
                clear hb8
                simp only []
                refine hK13.out _ _ HC13.out (fun hS => ?_)
                try simp only [putS, List.getElem_toArray, List.getElem_cons_zero, List.getElem_cons_succ]
                refine takeE 14 (some 35) rfl rfl (fun w e1 => by go_simp <;> (with_reducible rfl)) hS ?_
                simp only [putS]
                refine takeE 15 (some 36) rfl rfl (fun w e1 => by go_simp <;> (with_reducible rfl)) hS ?_
                simp only [putS]
                refine takeE 16 (some 37) rfl rfl (fun w e1 => by go_simp <;> (with_reducible rfl)) hS ?_
                simp only [putS]
                refine takeE 17 (some 38) rfl rfl (fun w e1 => by go_simp <;> (with_reducible rfl)) hS ?_
                simp only [putS]
                refine takeE 18 (some 39) rfl rfl (fun w e1 => by go_simp <;> (with_reducible rfl)) hS ?_
                simp only [putS]
                refine takeE 19 (some 40) rfl rfl (fun w e1 => by go_simp <;> (with_reducible rfl)) hS ?_
                simp only [putS]
                refine takeE 20 (some 41) rfl rfl (fun w e1 => by have z1 := e1.cell_some k1' (fun c => c); have z2 := e1.cell_some k2' (fun c => c); go_simp <;> (with_reducible rfl)) hS ?_
                simp only [putS]
                refine takeE 21 (some 42) rfl rfl (fun w e1 => by go_simp <;> (with_reducible rfl)) hS ?_
                simp only [putS]
                refine takeE 22 (some 43) rfl rfl (fun w e1 => by go_simp <;> (with_reducible rfl)) hS ?_
                simp only [putS]
                refine takeE 23 (some 44) rfl rfl (fun w e1 => by go_simp <;> (with_reducible rfl)) hS ?_
                simp only [putS]
                refine takeE 24 (some 45) rfl rfl (fun w e1 => by go_simp <;> (with_reducible rfl)) hS ?_
                simp only [putS]
                refine takeE 25 (some 46) rfl rfl (fun w e1 => by go_simp <;> (with_reducible rfl)) hS ?_
                simp only [putS]
                refine takeE 26 (some 47) rfl rfl (fun w e1 => by go_simp <;> (with_reducible rfl)) hS ?_
                simp only [putS]
                refine wpAnyH_ready (rs := [27]) (by kernel_rfl) (by simp) (AllReadyH.cons rfl (fun K27 hK27 => ?_) AllReadyH.nil)
                rw [if_pos (by kernel_rfl)]
                go_simp
                go_at_call 92
                refine (HFI.out _ _ _ (by first | exact .inl rfl | exact .inl trivial | exact .inr HIN.out) hS).mono ?_
                rintro e w9 ⟨rfl, hb9⟩
                have HC27 := Lib.hid (hS.trans hb9)
                clear hb9
                simp only []
                refine hK27.out _ _ HC27.out (fun hS => ?_)
                try simp only [putS, List.getElem_toArray, List.getElem_cons_zero, List.getElem_cons_succ]
                refine takeE 28 (some 49) rfl rfl (fun w e1 => by go_simp <;> (with_reducible rfl)) hS ?_
                simp only [putS]
                refine takeE 29 (some 50) rfl rfl (fun w e1 => by go_simp <;> (with_reducible rfl)) hS ?_
                simp only [putS]
                refine wpAnyH_done (by kernel_rfl) ?_ _
                have k1'' := hS.cell_some k1' (fun c => c)
                have k2'' := hS.cell_some k2' (fun c => c)
                have HSW := Lib.hid hS
                clear hS k1' k2'
                go_upto_region 10 with (fail)
                go_region_law ((refine stE.step1 rfl _ _ rfl rfl w.heap.size (.slice (some ⟨g, 0, none⟩) m c3) st0 rfl (((HSH.out.new HSW.out).alloc _).drew) w9.heap.size (kk, tx) #[.int .i64 kk, .string tx] rfl rfl (heap_alloc_new w9 _) (by show (st0.length + 1) * (24 + 1) ≤ _; have := HE2.out; omega) (by have := HSW.out.size; have := HBt.out.size; simp; omega) ?_; intro g2 c2 w2 hown hgrow; rw [HE2.out] at hown; rw [HE2.out]))
                have HB2 := Lib.hid (El.Own.grown (((HBt.out.trans HSW.out).alloc _).drew) (((HSH.out.new HSW.out).alloc _).drew) hgrow (Nat.le_refl _))
                have HO2 := Lib.hid hown
                clear hown hgrow
                go_wp2_with fail
                go_roundg (t.length - (i + 1))
                case measure => rw [HGK.out]; omega
                case rel => exact ⟨i + 1, st0 ++ [(kk, tx)], rfl, by omega, by go_num, HB2.out, HO2.out, by have h1 := HSL.out; have h2 := HE2.out; simp only [List.length_append, List.length_singleton]; omega, HS0.out, HR2.out.symm⟩
      · obtain rfl : i = t.length := by omega
        have hlt' : ¬ (t.length : Int) < (t.length : Int) := by omega
        have HFF := Lib.hid (show refOk t = rootR st from by rw [HB.out, ← HR.out, List.drop_length]; rfl)
        by_cases h1 : st.length = 1
        · obtain ⟨q, rfl⟩ := List.length_eq_one_iff.1 h1
          obtain ⟨gs, cs, hv, -, -, -, -⟩ := HO.out.lit (by simp)
          injection hv with hA hB hC
          subst hA hC
          have hq : wr.cell? ⟨gs, 0, none⟩ = some (.int .i64 q.1) := by simpa using HO.out.cell 0 q rfl 0 _ rfl
          have E := Lib.hid (show refOk t = (q.1 != 1 && q.1 != 2) from by rw [HFF.out]; rfl)
          simp only [List.length_singleton] at *
          clear hB
          go_wp2_with fail
          all_goals go_ret
          all_goals refine ⟨congrArg Ending.returned (congrArg Value.bool ?_), HBt.out⟩
          all_goals (first | exact E.out.symm | (rw [E.out]; simp_all; done) | (rw [E.out]; rfl))
        · have h1i : ¬ (st.length : Int) = 1 := by omega
          have h1b : ((st.length : Int) == 1) = false := by simp; omega
          have E := Lib.hid (show refOk t = false from by
            rw [HFF.out]
            match st, h1 with
            | [], _ => rfl
            | [y], h => exact absurd rfl h
            | y :: z :: r, _ => rfl)
          clear h1
          go_wp2_with fail
          go_ret
          exact ⟨by rw [E.out]; rfl, HBt.out⟩
end Go.Proofs.Ytoaopjbgaehpfaa.G
