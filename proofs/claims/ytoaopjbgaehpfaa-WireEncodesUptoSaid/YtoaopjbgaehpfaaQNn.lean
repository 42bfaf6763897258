/- The reference's plan: texts and jobs (printed by gen_nn.py). -/
import Derived.Test.YtoaopjbgaehpfaaQNm
namespace Go.Proofs.Ytoaopjbgaehpfaa.G
open Go.RowKit
attribute [local simp, local go_sem] alloc_drewN setCell_drewN
set_option linter.unusedVariables false
set_option linter.unusedSimpArgs false
set_option maxRecDepth 100000
theorem jobC_rev (ts : List ByteArray) (s : List Int) (no : Nat) (j : JobP) : jobC ts s.reverse no j = jobC ts s no j := by
  unfold jobC fieldsB
  rw [List.count_reverse]
theorem jobsC_step {ts : List ByteArray} {js : List JobP} {i : Nat} (hi : i < js.length) {C : Int} (hC : jobC ts ((js.take i).map (·.one.name)) i js[i] = C) :
    jobsC ts ((js.take i).map (·.one.name)).reverse i (js.drop i) = if C = 0 then jobsC ts ((js.take (i + 1)).map (·.one.name)).reverse (i + 1) (js.drop (i + 1)) else C := by
  rw [List.drop_eq_getElem_cons hi]
  show (if jobC ts ((js.take i).map (·.one.name)).reverse i js[i] = 0 then _ else _) = _
  rw [jobC_rev, hC, List.take_succ_eq_append_getElem hi, List.map_append, List.reverse_append]
  rfl
set_option maxHeartbeats 8000000 in
theorem short17 (At Aj : Option Addr) (ct cj : Nat) (ts : List ByteArray) (js : List JobP) (w : World)
    (hT : StrsIn w At ts) (hJ : JobsIn w Aj js) (hts : ∀ s ∈ ts, s.size ≤ 9223372036854775807) (htl : ts.length ≤ 9223372036854775807) (hjl : js.length ≤ 9223372036854775807) (hF : ∀ j ∈ js, JobFits j) :
    Calls Try.prog 56 #[.agg #[.slice At ts.length ct, .slice Aj js.length cj]] w fun e w' => (∃ k : Int, e = .returned (.tuple #[.int .i64 k, .int .i64 (partsC ts js)])) ∧ But No w w' := by
  obtain ⟨R, hR⟩ : ∃ R, partsC ts js = R := ⟨_, rfl⟩
  rw [hR]
  have HR := Lib.hid hR
  have HTC : Hid (∀ c, textsC ts js.length = c → c ≠ 0 → R = c) := Lib.hid (fun c h h0 => HR.out.symm.trans (by unfold partsC; rw [if_neg (by rw [h]; exact h0), h]))
  have HB := Lib.hid (show But No w (w.alloc (.cells #[.slice At ts.length ct, .slice Aj js.length cj] 25)) from (But.refl No w).alloc _)
  by_cases c1 : 256 < js.length
  · have d1 : decide ((256 : Int) < (js.length : Int)) = true := decide_eq_true (by omega)
    have d1' : (256 : Int) < (js.length : Int) := by omega
    have E := Lib.hid (HTC.out 175 (if_neg (by unfold manyB; rw [decide_eq_false (by omega)]; simp)) (by decide))
    clear hR hT hts hJ hF
    go_enter Try.func56, Try.ntmps56
    go_wp2_with fail
    go_ret2
    exact ⟨⟨0, by rw [E.out]; rfl⟩, HB.out⟩
  have d1 : decide ((256 : Int) < (js.length : Int)) = false := decide_eq_false (by omega)
  have d1' : ¬ (256 : Int) < (js.length : Int) := by omega
  by_cases c2 : 65536 < ts.length
  · have d2 : decide ((65536 : Int) < (ts.length : Int)) = true := decide_eq_true (by omega)
    have d2' : (65536 : Int) < (ts.length : Int) := by omega
    have E := Lib.hid (HTC.out 175 (if_neg (by unfold manyB; rw [decide_eq_false (show ¬ ts.length ≤ 65536 by omega)]; simp)) (by decide))
    clear hR hT hts hJ hF
    go_enter Try.func56, Try.ntmps56
    go_wp2_with fail
    go_ret2
    exact ⟨⟨0, by rw [E.out]; rfl⟩, HB.out⟩
  have d2 : decide ((65536 : Int) < (ts.length : Int)) = false := decide_eq_false (by omega)
  have d2' : ¬ (65536 : Int) < (ts.length : Int) := by omega
  have HM := Lib.hid (show textsC ts js.length = (if risesB ts = true then 0 else 170) from if_pos (by unfold manyB; rw [decide_eq_true (by omega), decide_eq_true (by omega)]; rfl))
  have HT := Lib.hid hT
  have HJ := Lib.hid hJ
  have HS := Lib.hid hts
  have HF := Lib.hid hF
  have HBAD : Hid (∀ i, i < ts.length → txtB ts i = false → R = 170) := Lib.hid (fun i hi hb => HTC.out 170 (HM.out.trans (if_neg (fun ha => by
    have := List.all_eq_true.1 ha i (List.mem_range.2 hi)
    rw [hb] at this
    cases this))) (by decide))
  obtain ⟨W, hW⟩ : ∃ W, w.alloc (.cells #[.slice At ts.length ct, .slice Aj js.length cj] 25) = W := ⟨_, rfl⟩
  have HW := Lib.hid (show But No w W from by rw [← hW]; exact (But.refl No w).alloc _)
  have HBP := Lib.hid (show W.heap[w.heap.size]? = some (.cells #[.slice At ts.length ct, .slice Aj js.length cj] 25 (0, 0)) from by rw [← hW]; exact heap_alloc_new w _)
  have HW2 := Lib.hid (show w.heap.size + 1 = W.heap.size from by rw [← hW]; simp)
  have p00 : W.cell? ⟨w.heap.size, 0, none⟩ = some (.slice At ts.length ct) := blkcell HBP.out 0 (by simp)
  have p01 : W.cell? ⟨w.heap.size, 1, none⟩ = some (.slice Aj js.length cj) := blkcell HBP.out 1 (by simp)
  clear hT hR hts hJ hF HB
  go_enter Try.func56, Try.ntmps56
  go_wp2_with fail
  go_loopg [4] ts.length (fun gk v wr => BxAt W ts.length (fun i => (List.range i).all (txtB ts) = true) gk v wr)
  case atStart => exact ⟨0, rfl, Nat.zero_le _, rfl, by first | exact But.refl _ _ | (rw [hW]; exact But.refl _ _), rfl⟩
  case round =>
    obtain ⟨i, hgk, hi, rfl, hb, hall⟩ := hrel
    have HGK := Lib.hid hgk
    have HBt := Lib.hid (HW.out.trans hb)
    have HBW := Lib.hid hb
    have HA := Lib.hid hall
    clear hgk hall hb hW p00 p01
    have hbp_ := (HBW.out.block w.heap.size (by have := HW2.out; omega) (fun c => c)).trans HBP.out
    have p0 : wr.cell? ⟨w.heap.size, 0, none⟩ = some (.slice At ts.length ct) := blkcell hbp_ 0 (by simp)
    have p1 : wr.cell? ⟨w.heap.size, 1, none⟩ = some (.slice Aj js.length cj) := blkcell hbp_ 1 (by simp)
    clear hbp_
    by_cases hlt : i < ts.length
    · obtain ⟨ad, hA, k1⟩ := HT.out i hlt
      cases hA
      obtain ⟨p, hp⟩ : ∃ p, ts[i] = p := ⟨_, rfl⟩
      have hps : p.size ≤ 9223372036854775807 := hp ▸ HS.out _ (List.getElem_mem hlt)
      have hpd : ts.getD i .empty = p := by rw [List.getD_eq_getElem?_getD, List.getElem?_eq_getElem hlt, hp]; rfl
      rw [hp] at k1
      have hlt' : (i : Int) < (ts.length : Int) := by omega
      have dl : decide ((i : Int) < (ts.length : Int)) = true := decide_eq_true hlt'
      have HNX := Lib.hid (show txtB ts i = true → (List.range (i + 1)).all (txtB ts) = true from fun hb => by rw [List.range_succ, List.all_append, HA.out]; simpa using hb)
      have HBq := Lib.hid (show txtB ts i = ((i == 0 || !(leB p (ts.getD (i - 1) .empty))) && decide (p.size ≤ 4096)) from by unfold txtB; rw [hpd])
      have k1x := HBt.out.cell_some k1 (fun c => c)
      clear hp hpd k1
      by_cases c3 : 4096 < p.size
      · have d4 : decide ((4096 : Int) < (p.size : Int)) = true := decide_eq_true (by omega)
        have d4' : (4096 : Int) < (p.size : Int) := by omega
        have E := Lib.hid (HBAD.out i hlt (by rw [HBq.out, decide_eq_false (by omega), Bool.and_false]))
        go_wp2_with fail
        refine wp_region_held_drew (S := (fun w' => But No wr w')) (by kernel_rfl) ((But.refl No wr).drewN 1) (fun hS => ?_)
        refine takeE 0 (some 24) rfl rfl (fun w e1 => by go_simp <;> (with_reducible rfl)) hS ?_
        simp only [putS]
        refine takeE 1 (some 25) rfl rfl (fun w e1 => by have z_p0 := e1.cell_some p0 (fun c => c); go_simp <;> (with_reducible rfl)) hS ?_
        simp only [putS]
        refine takeE 2 (some 26) rfl rfl (fun w e1 => by go_simp <;> (with_reducible rfl)) hS ?_
        simp only [putS]
        refine takeE 3 (some 27) rfl rfl (fun w e1 => by go_simp <;> (with_reducible rfl)) hS ?_
        simp only [putS]
        refine takeE 4 (some 28) rfl rfl (fun w e1 => by have z_k1x := e1.cell_some k1x (fun c => c); go_simp <;> (with_reducible rfl)) hS ?_
        simp only [putS]
        refine takeE 5 (some 29) rfl rfl (fun w e1 => by go_simp <;> (with_reducible rfl)) hS ?_
        simp only [putS]
        refine takeE 6 (some 30) rfl rfl (fun w e1 => by go_simp <;> (with_reducible rfl)) hS ?_
        simp only [putS]
        refine takeE 7 (some 31) rfl rfl (fun w e1 => by go_simp <;> (with_reducible rfl)) hS ?_
        simp only [putS]
        refine takeF 8 (some 32) rfl rfl hS ?_
        simp only [putS]
        refine takeF 9 (some 33) rfl rfl hS ?_
        simp only [putS]
        refine takeF 10 (some 34) rfl rfl hS ?_
        simp only [putS]
        refine takeF 11 (some 35) rfl rfl hS ?_
        simp only [putS]
        refine takeF 12 (some 36) rfl rfl hS ?_
        simp only [putS]
        refine takeF 13 (some 37) rfl rfl hS ?_
        simp only [putS]
        refine takeF 14 (some 38) rfl rfl hS ?_
        simp only [putS]
        refine takeF 15 (some 39) rfl rfl hS ?_
        simp only [putS]
        refine takeF 16 (some 40) rfl rfl hS ?_
        simp only [putS]
        refine takeF 17 (some 41) rfl rfl hS ?_
        simp only [putS]
        refine takeF 18 (some 42) rfl rfl hS ?_
        simp only [putS]
        refine takeF 19 (some 43) rfl rfl hS ?_
        simp only [putS]
        refine takeF 20 (some 44) rfl rfl hS ?_
        simp only [putS]
        refine takeF 21 (some 45) rfl rfl hS ?_
        simp only [putS]
        refine takeF 22 (some 46) rfl rfl hS ?_
        simp only [putS]
        refine takeF 23 (some 47) rfl rfl hS ?_
        simp only [putS]
        refine takeE 24 (some 48) rfl rfl (fun w e1 => by go_simp <;> (with_reducible rfl)) hS ?_
        simp only [putS]
        refine wpAnyH_done (by kernel_rfl) ?_ _
        go_wp2_with fail
        go_ret2
        exact ⟨⟨0, by rw [E.out]; rfl⟩, HBt.out.trans hS⟩
      have d4 : decide ((4096 : Int) < (p.size : Int)) = false := decide_eq_false (by omega)
      have d4' : ¬ (4096 : Int) < (p.size : Int) := by omega
      by_cases c5 : i = 0
      · have d3 : decide ((0 : Int) < (i : Int)) = false := decide_eq_false (by omega)
        have d3' : ¬ (0 : Int) < (i : Int) := by omega
        have diN : decide (0 < i) = false := decide_eq_false (by omega)
        have diN' : ¬ 0 < i := by omega
        have E := Lib.hid (HNX.out (by rw [HBq.out, decide_eq_true (by omega), c5]; rfl))
        clear c5 c3
        go_wp2_with fail
        refine wp_region_held_drew (S := (fun w' => But No wr w')) (by kernel_rfl) ((But.refl No wr).drewN 1) (fun hS => ?_)
        refine takeE 0 (some 24) rfl rfl (fun w e1 => by go_simp <;> (with_reducible rfl)) hS ?_
        simp only [putS]
        refine takeE 1 (some 25) rfl rfl (fun w e1 => by have z_p0 := e1.cell_some p0 (fun c => c); go_simp <;> (with_reducible rfl)) hS ?_
        simp only [putS]
        refine takeE 2 (some 26) rfl rfl (fun w e1 => by go_simp <;> (with_reducible rfl)) hS ?_
        simp only [putS]
        refine takeE 3 (some 27) rfl rfl (fun w e1 => by go_simp <;> (with_reducible rfl)) hS ?_
        simp only [putS]
        refine takeE 4 (some 28) rfl rfl (fun w e1 => by have z_k1x := e1.cell_some k1x (fun c => c); go_simp <;> (with_reducible rfl)) hS ?_
        simp only [putS]
        refine takeE 5 (some 29) rfl rfl (fun w e1 => by go_simp <;> (with_reducible rfl)) hS ?_
        simp only [putS]
        refine takeE 6 (some 30) rfl rfl (fun w e1 => by go_simp <;> (with_reducible rfl)) hS ?_
        simp only [putS]
        refine takeE 7 (some 31) rfl rfl (fun w e1 => by go_simp <;> (with_reducible rfl)) hS ?_
        simp only [putS]
        refine takeE 8 (some 32) rfl rfl (fun w e1 => by go_simp <;> (with_reducible rfl)) hS ?_
        simp only [putS]
        refine takeE 9 (some 33) rfl rfl (fun w e1 => by go_simp <;> (with_reducible rfl)) hS ?_
        simp only [putS]
        refine takeE 10 (some 34) rfl rfl (fun w e1 => by go_simp <;> (with_reducible rfl)) hS ?_
        simp only [putS]
        refine takeF 11 (some 35) rfl rfl hS ?_
        simp only [putS]
        refine takeF 12 (some 36) rfl rfl hS ?_
        simp only [putS]
        refine takeF 13 (some 37) rfl rfl hS ?_
        simp only [putS]
        refine takeF 14 (some 38) rfl rfl hS ?_
        simp only [putS]
        refine takeF 15 (some 39) rfl rfl hS ?_
        simp only [putS]
        refine takeF 16 (some 40) rfl rfl hS ?_
        simp only [putS]
        refine takeF 17 (some 41) rfl rfl hS ?_
        simp only [putS]
        refine takeF 18 (some 42) rfl rfl hS ?_
        simp only [putS]
        refine takeF 19 (some 43) rfl rfl hS ?_
        simp only [putS]
        refine takeF 20 (some 44) rfl rfl hS ?_
        simp only [putS]
        refine takeF 21 (some 45) rfl rfl hS ?_
        simp only [putS]
        refine takeF 22 (some 46) rfl rfl hS ?_
        simp only [putS]
        refine takeE 23 (some 47) rfl rfl (fun w e1 => by go_simp <;> (with_reducible rfl)) hS ?_
        simp only [putS]
        refine takeE 24 (some 48) rfl rfl (fun w e1 => by go_simp <;> (with_reducible rfl)) hS ?_
        simp only [putS]
        refine wpAnyH_done (by kernel_rfl) ?_ _
        go_wp2_with fail
        go_roundg (ts.length - (i + 1))
        case measure => rw [HGK.out]; omega
        case rel => exact ⟨i + 1, rfl, by omega, by go_num, HBW.out.trans hS, E.out⟩
      obtain ⟨m, rfl⟩ : ∃ m, i = m + 1 := ⟨i - 1, by omega⟩
      obtain ⟨ad2, hA2, k2⟩ := HT.out m (by omega)
      cases hA2
      obtain ⟨q, hq⟩ : ∃ q, ts[m] = q := ⟨_, rfl⟩
      have hqd : ts.getD m .empty = q := by rw [List.getD_eq_getElem?_getD, List.getElem?_eq_getElem (by omega), hq]; rfl
      rw [hq] at k2
      have k2x := HBt.out.cell_some k2 (fun c => c)
      obtain ⟨b1, hb1⟩ : ∃ b, leB p q = b := ⟨_, rfl⟩
      have HBr := Lib.hid (show txtB ts (m + 1) = !b1 from by rw [HBq.out, decide_eq_true (by omega), Nat.add_sub_cancel, hqd, hb1]; cases b1 <;> rfl)
      unfold leB at hb1
      have d3 : decide ((0 : Int) < ((m + 1 : Nat) : Int)) = true := decide_eq_true (by omega)
      have d3' : (0 : Int) < ((m : Int) + 1) := by omega
      have d3'' : decide ((0 : Int) < (m : Int) + 1) = true := decide_eq_true (by omega)
      have hwk : IntKind.i64.wrap (m : Int) = (m : Int) := by rw [IntKind.wrap_i64]; omega
      have hkl : (m : Int) < (ts.length : Int) := by omega
      have h0m : (0 : Int) ≤ (m : Int) + 1 := by omega
      have k1x : wr.cell? ⟨ad.block, ad.off + (m + 1), none⟩ = some (.string p) := by
        unfold Addr.add at k1x
        rw [if_neg (by omega)] at k1x
        exact k1x
      have hklN : m < ts.length := by omega
      clear hq hqd c3 c5 k2
      cases b1 with
      | true =>
        have E := Lib.hid (HBAD.out (m + 1) hlt (by rw [HBr.out]; rfl))
        go_wp2_with fail
        refine wp_region_held_drew (S := (fun w' => But No wr w')) (by kernel_rfl) ((But.refl No wr).drewN 1) (fun hS => ?_)
        refine takeE 0 (some 24) rfl rfl (fun w e1 => by go_simp <;> (with_reducible rfl)) hS ?_
        simp only [putS]
        refine takeE 1 (some 25) rfl rfl (fun w e1 => by have z_p0 := e1.cell_some p0 (fun c => c); go_simp <;> (with_reducible rfl)) hS ?_
        simp only [putS]
        refine takeE 2 (some 26) rfl rfl (fun w e1 => by go_simp <;> (with_reducible rfl)) hS ?_
        simp only [putS]
        refine takeE 3 (some 27) rfl rfl (fun w e1 => by go_simp <;> (with_reducible rfl)) hS ?_
        simp only [putS]
        refine takeE 4 (some 28) rfl rfl (fun w e1 => by have z_k1x := e1.cell_some k1x (fun c => c); go_simp <;> (with_reducible rfl)) hS ?_
        simp only [putS]
        refine takeE 5 (some 29) rfl rfl (fun w e1 => by go_simp <;> (with_reducible rfl)) hS ?_
        simp only [putS]
        refine takeE 6 (some 30) rfl rfl (fun w e1 => by go_simp <;> (with_reducible rfl)) hS ?_
        simp only [putS]
        refine takeE 7 (some 31) rfl rfl (fun w e1 => by go_simp <;> (with_reducible rfl)) hS ?_
        simp only [putS]
        refine takeE 8 (some 32) rfl rfl (fun w e1 => by go_simp <;> (with_reducible rfl)) hS ?_
        simp only [putS]
        refine takeE 9 (some 33) rfl rfl (fun w e1 => by go_simp <;> (with_reducible rfl)) hS ?_
        simp only [putS]
        refine takeE 10 (some 34) rfl rfl (fun w e1 => by go_simp <;> (with_reducible rfl)) hS ?_
        simp only [putS]
        refine takeE 11 (some 35) rfl rfl (fun w e1 => by go_simp <;> (with_reducible rfl)) hS ?_
        simp only [putS]
        refine takeE 12 (some 36) rfl rfl (fun w e1 => by have z_p0 := e1.cell_some p0 (fun c => c); go_simp <;> (with_reducible rfl)) hS ?_
        simp only [putS]
        refine takeE 13 (some 37) rfl rfl (fun w e1 => by go_simp <;> (with_reducible rfl)) hS ?_
        simp only [putS]
        refine takeE 14 (some 38) rfl rfl (fun w e1 => by go_simp <;> (with_reducible rfl)) hS ?_
        simp only [putS]
        refine takeE 15 (some 39) rfl rfl (fun w e1 => by have z_k1x := e1.cell_some k1x (fun c => c); go_simp <;> (with_reducible rfl)) hS ?_
        simp only [putS]
        refine takeE 16 (some 40) rfl rfl (fun w e1 => by go_simp <;> (with_reducible rfl)) hS ?_
        simp only [putS]
        refine takeE 17 (some 41) rfl rfl (fun w e1 => by have z_p0 := e1.cell_some p0 (fun c => c); go_simp <;> (with_reducible rfl)) hS ?_
        simp only [putS]
        refine takeE 18 (some 42) rfl rfl (fun w e1 => by go_simp <;> (with_reducible rfl)) hS ?_
        simp only [putS]
        refine takeE 19 (some 43) rfl rfl (fun w e1 => by go_simp <;> (with_reducible rfl)) hS ?_
        simp only [putS]
        refine takeE 20 (some 44) rfl rfl (fun w e1 => by go_simp <;> (with_reducible rfl)) hS ?_
        simp only [putS]
        refine takeE 21 (some 45) rfl rfl (fun w e1 => by have z_k2x := e1.cell_some k2x (fun c => c); go_simp <;> (with_reducible rfl)) hS ?_
        simp only [putS]
        refine takeE 22 (some 46) rfl rfl (fun w e1 => by go_simp <;> (with_reducible rfl)) hS ?_
        simp only [putS]
        refine takeE 23 (some 47) rfl rfl (fun w e1 => by go_simp <;> (with_reducible rfl)) hS ?_
        simp only [putS]
        refine takeE 24 (some 48) rfl rfl (fun w e1 => by go_simp <;> (with_reducible rfl)) hS ?_
        simp only [putS]
        refine wpAnyH_done (by kernel_rfl) ?_ _
        go_wp2_with fail
        go_ret2
        exact ⟨⟨0, by rw [E.out]; rfl⟩, HBt.out.trans hS⟩
      | false =>
        have E := Lib.hid (HNX.out (by rw [HBr.out]; rfl))
        go_wp2_with fail
        refine wp_region_held_drew (S := (fun w' => But No wr w')) (by kernel_rfl) ((But.refl No wr).drewN 1) (fun hS => ?_)
        refine takeE 0 (some 24) rfl rfl (fun w e1 => by go_simp <;> (with_reducible rfl)) hS ?_
        simp only [putS]
        refine takeE 1 (some 25) rfl rfl (fun w e1 => by have z_p0 := e1.cell_some p0 (fun c => c); go_simp <;> (with_reducible rfl)) hS ?_
        simp only [putS]
        refine takeE 2 (some 26) rfl rfl (fun w e1 => by go_simp <;> (with_reducible rfl)) hS ?_
        simp only [putS]
        refine takeE 3 (some 27) rfl rfl (fun w e1 => by go_simp <;> (with_reducible rfl)) hS ?_
        simp only [putS]
        refine takeE 4 (some 28) rfl rfl (fun w e1 => by have z_k1x := e1.cell_some k1x (fun c => c); go_simp <;> (with_reducible rfl)) hS ?_
        simp only [putS]
        refine takeE 5 (some 29) rfl rfl (fun w e1 => by go_simp <;> (with_reducible rfl)) hS ?_
        simp only [putS]
        refine takeE 6 (some 30) rfl rfl (fun w e1 => by go_simp <;> (with_reducible rfl)) hS ?_
        simp only [putS]
        refine takeE 7 (some 31) rfl rfl (fun w e1 => by go_simp <;> (with_reducible rfl)) hS ?_
        simp only [putS]
        refine takeE 8 (some 32) rfl rfl (fun w e1 => by go_simp <;> (with_reducible rfl)) hS ?_
        simp only [putS]
        refine takeE 9 (some 33) rfl rfl (fun w e1 => by go_simp <;> (with_reducible rfl)) hS ?_
        simp only [putS]
        refine takeE 10 (some 34) rfl rfl (fun w e1 => by go_simp <;> (with_reducible rfl)) hS ?_
        simp only [putS]
        refine takeE 11 (some 35) rfl rfl (fun w e1 => by go_simp <;> (with_reducible rfl)) hS ?_
        simp only [putS]
        refine takeE 12 (some 36) rfl rfl (fun w e1 => by have z_p0 := e1.cell_some p0 (fun c => c); go_simp <;> (with_reducible rfl)) hS ?_
        simp only [putS]
        refine takeE 13 (some 37) rfl rfl (fun w e1 => by go_simp <;> (with_reducible rfl)) hS ?_
        simp only [putS]
        refine takeE 14 (some 38) rfl rfl (fun w e1 => by go_simp <;> (with_reducible rfl)) hS ?_
        simp only [putS]
        refine takeE 15 (some 39) rfl rfl (fun w e1 => by have z_k1x := e1.cell_some k1x (fun c => c); go_simp <;> (with_reducible rfl)) hS ?_
        simp only [putS]
        refine takeE 16 (some 40) rfl rfl (fun w e1 => by go_simp <;> (with_reducible rfl)) hS ?_
        simp only [putS]
        refine takeE 17 (some 41) rfl rfl (fun w e1 => by have z_p0 := e1.cell_some p0 (fun c => c); go_simp <;> (with_reducible rfl)) hS ?_
        simp only [putS]
        refine takeE 18 (some 42) rfl rfl (fun w e1 => by go_simp <;> (with_reducible rfl)) hS ?_
        simp only [putS]
        refine takeE 19 (some 43) rfl rfl (fun w e1 => by go_simp <;> (with_reducible rfl)) hS ?_
        simp only [putS]
        refine takeE 20 (some 44) rfl rfl (fun w e1 => by go_simp <;> (with_reducible rfl)) hS ?_
        simp only [putS]
        refine takeE 21 (some 45) rfl rfl (fun w e1 => by have z_k2x := e1.cell_some k2x (fun c => c); go_simp <;> (with_reducible rfl)) hS ?_
        simp only [putS]
        refine takeE 22 (some 46) rfl rfl (fun w e1 => by go_simp <;> (with_reducible rfl)) hS ?_
        simp only [putS]
        refine takeE 23 (some 47) rfl rfl (fun w e1 => by go_simp <;> (with_reducible rfl)) hS ?_
        simp only [putS]
        refine takeE 24 (some 48) rfl rfl (fun w e1 => by go_simp <;> (with_reducible rfl)) hS ?_
        simp only [putS]
        refine wpAnyH_done (by kernel_rfl) ?_ _
        go_wp2_with fail
        go_roundg (ts.length - (m + 1 + 1))
        case measure => rw [HGK.out]; omega
        case rel => exact ⟨m + 1 + 1, rfl, by omega, by go_num, HBW.out.trans hS, E.out⟩
    · obtain rfl : i = ts.length := by omega
      have hlt' : ¬ (ts.length : Int) < (ts.length : Int) := by omega
      have HRJ := Lib.hid (show jobsC ts [] 0 js = R from HR.out ▸ (show jobsC ts [] 0 js = partsC ts js from by unfold partsC; rw [if_pos (HM.out.trans (if_pos HA.out))]))
      go_wp2_with fail
      go_loopg [5] js.length (fun gk v wx => BxAt wr js.length (fun i => jobsC ts ((js.take i).map (·.one.name)).reverse i (js.drop i) = R) gk v wx)
      case atStart => exact ⟨0, rfl, Nat.zero_le _, rfl, But.refl _ _, HRJ.out⟩
      case round =>
        rename World => wx
        obtain ⟨i, hgk, hi, rfl, hb, hall⟩ := hrel
        have HGK2 := Lib.hid hgk
        have HYt := Lib.hid (HBt.out.trans hb)
        have HYW := Lib.hid (HBW.out.trans hb)
        have HY := Lib.hid hb
        have HA2 := Lib.hid hall
        clear hgk hb hall p0 p1
        have hbp_ := (HYW.out.block w.heap.size (by have := HW2.out; omega) (fun c => c)).trans HBP.out
        have p0 : wx.cell? ⟨w.heap.size, 0, none⟩ = some (.slice At ts.length ct) := blkcell hbp_ 0 (by simp)
        have p1 : wx.cell? ⟨w.heap.size, 1, none⟩ = some (.slice Aj js.length cj) := blkcell hbp_ 1 (by simp)
        clear hbp_
        by_cases hlt : i < js.length
        · have hltj : (i : Int) < (js.length : Int) := by omega
          have dlj : decide ((i : Int) < (js.length : Int)) = true := decide_eq_true hltj
          obtain ⟨C, hC⟩ : ∃ C, jobC ts ((js.take i).map (·.one.name)) i js[i] = C := ⟨_, rfl⟩
          have HST := Lib.hid (HA2.out.symm.trans (jobsC_step hlt hC))
          have HJB := Lib.hid (hC ▸ job17 At Aj ct cj ts js i hlt wx (HT.out.but HYt.out) (HJ.out.but HYt.out) HS.out htl hjl (HF.out _ (List.getElem_mem hlt)))
          clear hC
          by_cases c0 : C = 0
          · subst c0
            have E := Lib.hid (HST.out.trans (if_pos rfl))
            go_wp2_with (go_at_call 68; refine HJB.out.mono ?_; rintro e w9 ⟨rfl, hb9⟩; have HB9 := Lib.hid hb9; clear hb9)
            go_roundg (js.length - (i + 1))
            case measure => rw [HGK2.out]; omega
            case rel => exact ⟨i + 1, rfl, by omega, by go_num, HY.out.trans HB9.out, E.out.symm⟩
          · have e0 : (C == 0) = false := by simpa using c0
            have e1 : (C != 0) = true := by simpa using c0
            have E := Lib.hid (HST.out.trans (if_neg c0))
            go_wp2_with (go_at_call 68; refine HJB.out.mono ?_; rintro e w9 ⟨rfl, hb9⟩; have HB9 := Lib.hid hb9; clear hb9)
            go_ret2
            exact ⟨⟨i, by rw [E.out]; rfl⟩, HYt.out.trans HB9.out⟩
        · obtain rfl : i = js.length := by omega
          have hlt' : ¬ (js.length : Int) < (js.length : Int) := by omega
          have E := Lib.hid (show R = 0 from HA2.out ▸ (by rw [List.drop_length]; rfl))
          go_wp2_with fail
          go_ret2
          exact ⟨⟨0, by rw [E.out]; rfl⟩, HYt.out⟩
end Go.Proofs.Ytoaopjbgaehpfaa.G
