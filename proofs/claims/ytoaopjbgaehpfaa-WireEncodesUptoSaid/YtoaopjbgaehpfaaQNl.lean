/- The reference's plan: a job's variables (printed by gen_nl.py). -/
import Derived.Test.YtoaopjbgaehpfaaQNi
namespace Go.Proofs.Ytoaopjbgaehpfaa.G
open Go.RowKit
attribute [local simp, local go_sem] alloc_drewN setCell_drewN
set_option linter.unusedVariables false
set_option linter.unusedSimpArgs false
set_option maxRecDepth 100000
theorem varNameR0q (s : ByteArray) (b : Bool) (hb : varNameB s = b) (w : World) (hs : s.size ≤ 9223372036854775807) : Calls Try.prog 86 #[.string s] w fun e w' => e = .returned (.bool b) ∧ w = w' :=
  (varNameR0 s w hs).mono fun e w' h => ⟨by rw [h.1, hb], h.2.symm⟩
set_option maxHeartbeats 8000000 in
theorem vars17 (At Aj : Option Addr) (nj ct cj : Nat) (ts : List ByteArray) (j : JobP) (Ar Av Ap : Option Addr) (cr cv cp : Nat) (w : World)
    (hT : StrsIn w At ts) (hV : PairsIn w Av j.vars) (hts : ∀ s ∈ ts, s.size ≤ 9223372036854775807) (htl : ts.length ≤ 9223372036854775807) (hl : j.vars.length ≤ 9223372036854775807) :
    Calls Try.prog 80 #[.agg #[.slice At ts.length ct, .slice Aj nj cj], jobV j Ar Av Ap cr cv cp] w fun e w' => e = .returned (.bool (varsB ts j.vars)) ∧ But No w w' := by
  unfold jobV
  obtain ⟨⟨jn, jr, js, jw, jg⟩, jal, jrs, vs, jps⟩ := j
  dsimp only at *
  obtain ⟨nr, hnr⟩ : ∃ n, jrs.length = n := ⟨_, rfl⟩
  obtain ⟨np, hnp⟩ : ∃ n, jps.length = n := ⟨_, rfl⟩
  rw [hnr, hnp]
  clear hnr hnp
  by_cases h256 : 256 < vs.length
  · have E := Lib.hid (show varsB ts vs = false from by unfold varsB; rw [decide_eq_false (by omega)]; simp)
    have d : decide ((256 : Int) < (vs.length : Int)) = true := decide_eq_true (by omega)
    have d' : (256 : Int) < (vs.length : Int) := by omega
    clear hT hV hts
    go_enter Try.func80, Try.ntmps80
    go_wp2_with fail
    go_ret
    exact ⟨by rw [E.out]; rfl, ((But.refl No w).alloc _).alloc _⟩
  have d : decide ((256 : Int) < (vs.length : Int)) = false := decide_eq_false (by omega)
  have d' : ¬ (256 : Int) < (vs.length : Int) := by omega
  have HT := Lib.hid hT
  have HV := Lib.hid hV
  have HS := Lib.hid hts
  have H256 := Lib.hid (show vs.length ≤ 256 by omega)
  have HBAD : Hid (∀ i, i < vs.length → varB ts vs i = false → varsB ts vs = false) := Lib.hid (fun i hi hb => by
    unfold varsB
    rw [Bool.and_eq_false_iff, List.all_eq_false]
    exact .inr ⟨i, List.mem_range.2 hi, by simp [hb]⟩)
  obtain ⟨W, hW⟩ : ∃ W, (w.alloc (.cells #[.slice At ts.length ct, .slice Aj nj cj] 25)).alloc (.cells #[.int .i64 jn, .int .i64 jr, .int .i64 js, .int .i64 jw, .bool jal, .int .i64 jg, .slice Ar nr cr, .slice Av vs.length cv, .slice Ap np cp] 52) = W := ⟨_, rfl⟩
  have HW := Lib.hid (show But No w W from by rw [← hW]; exact ((But.refl No w).alloc _).alloc _)
  have HBP := Lib.hid (show W.heap[w.heap.size]? = some (.cells #[.slice At ts.length ct, .slice Aj nj cj] 25 (0, 0)) from by rw [← hW]; exact blkold (heap_alloc_new w _) _)
  have HBR := Lib.hid (show W.heap[w.heap.size + 1]? = some (.cells #[.int .i64 jn, .int .i64 jr, .int .i64 js, .int .i64 jw, .bool jal, .int .i64 jg, .slice Ar nr cr, .slice Av vs.length cv, .slice Ap np cp] 52 (0, 0)) from by rw [← hW]; exact blkb w _ _)
  have HW2 := Lib.hid (show w.heap.size + 2 = W.heap.size from by rw [← hW]; simp)
  have j70 : W.cell? ⟨w.heap.size + 1, 7, none⟩ = some (.slice Av vs.length cv) := blkcell HBR.out 7 (by simp)
  clear hT hV hts h256
  go_enter Try.func80, Try.ntmps80
  go_wp2_with fail
  go_loopg [5] vs.length (fun gk v wr => BxAt W vs.length (fun i => (List.range i).all (varB ts vs) = true) gk v wr)
  case atStart => exact ⟨0, rfl, Nat.zero_le _, rfl, by first | exact But.refl _ _ | (rw [hW]; exact But.refl _ _), rfl⟩
  case round =>
    obtain ⟨i, hgk, hi, rfl, hb, hall⟩ := hrel
    have HGK := Lib.hid hgk
    have hbw := HW.out.trans hb
    have HBt := Lib.hid hbw
    have HBW := Lib.hid hb
    have HA := Lib.hid hall
    have hws : w.heap.size + 2 ≤ wr.heap.size := by rw [HW2.out]; exact hb.size
    have hbp := (hb.block w.heap.size (by have := HW2.out; omega) (fun c => c)).trans HBP.out
    have hbr := (hb.block (w.heap.size + 1) (by have := HW2.out; omega) (fun c => c)).trans HBR.out
    have p0 : wr.cell? ⟨w.heap.size, 0, none⟩ = some (.slice At ts.length ct) := blkcell hbp 0 (by simp)
    have p1 : wr.cell? ⟨w.heap.size, 1, none⟩ = some (.slice Aj nj cj) := blkcell hbp 1 (by simp)
    have j7 : wr.cell? ⟨w.heap.size + 1, 7, none⟩ = some (.slice Av vs.length cv) := blkcell hbr 7 (by simp)
    clear hgk hb hall hbw hbp hbr hW j70
    by_cases hlt : i < vs.length
    · obtain ⟨ad, hA, k1, k2⟩ := HV.out i hlt
      cases hA
      have k1' := HBt.out.cell_some k1 (fun c => c)
      have k2' := HBt.out.cell_some k2 (fun c => c)
      have hlt' : (i : Int) < (vs.length : Int) := by omega
      have dl : decide ((i : Int) < (vs.length : Int)) = true := decide_eq_true hlt'
      obtain ⟨⟨nm, vl⟩, hp⟩ : ∃ p, vs[i] = p := ⟨_, rfl⟩
      have hpd : vs.getD i (0, 0) = (nm, vl) := by rw [List.getD_eq_getElem?_getD, List.getElem?_eq_getElem hlt, hp]; rfl
      rw [hp] at k1' k2'
      dsimp only at k1' k2'
      have HNX := Lib.hid (show varB ts vs i = true → (List.range (i + 1)).all (varB ts vs) = true from fun hb => by rw [List.range_succ, List.all_append, HA.out]; simpa using hb)
      have HB := Lib.hid (show varB ts vs i = (textB nm ts.length && textB vl ts.length && varNameB (strAt ts nm) && (i == 0 || decide ((vs.getD (i - 1) (0, 0)).1 < nm))) from by unfold varB; rw [hpd])
      clear hp hpd k1 k2
      obtain ⟨b1, hb1⟩ : ∃ b, textB nm ts.length = b := ⟨_, rfl⟩
      have HB1 := Lib.hid hb1
      clear hb1
      go_wp2_with fail
      have XA : But No wr (wr.alloc (.cells #[.int .i64 nm, .int .i64 vl] 81)) := (But.refl No wr).alloc _
      have q0 : (wr.alloc (.cells #[.int .i64 nm, .int .i64 vl] 81)).cell? ⟨w.heap.size, 0, none⟩ = some (.slice At ts.length ct) := XA.cell_some p0 (fun c => c)
      have q1 : (wr.alloc (.cells #[.int .i64 nm, .int .i64 vl] 81)).cell? ⟨w.heap.size, 1, none⟩ = some (.slice Aj nj cj) := XA.cell_some p1 (fun c => c)
      have q7 : (wr.alloc (.cells #[.int .i64 nm, .int .i64 vl] 81)).cell? ⟨w.heap.size + 1, 7, none⟩ = some (.slice _ vs.length cv) := XA.cell_some j7 (fun c => c)
      have v0 : (wr.alloc (.cells #[.int .i64 nm, .int .i64 vl] 81)).cell? ⟨wr.heap.size, 0, none⟩ = some (.int .i64 nm) := blkcell (heap_alloc_new wr _) 0 (by simp)
      have v1 : (wr.alloc (.cells #[.int .i64 nm, .int .i64 vl] 81)).cell? ⟨wr.heap.size, 1, none⟩ = some (.int .i64 vl) := blkcell (heap_alloc_new wr _) 1 (by simp)
      have HXA := Lib.hid XA
      clear XA p0 p1 j7 k1' k2'
      cases b1 with
      | false =>
        have E := Lib.hid (HBAD.out i hlt (by rw [HB.out, HB1.out]; rfl))
        refine wp_region_held_drew (S := (fun w' => But No (wr.alloc (.cells #[.int .i64 nm, .int .i64 vl] 81)) w')) (by kernel_rfl) ((But.refl No _).drewN 1) (fun hS => ?_)
        refine takeE 0 (some 23) rfl rfl (fun w e1 => by have z_q0 := e1.cell_some q0 (fun c => c); have z_q1 := e1.cell_some q1 (fun c => c); go_simp <;> (with_reducible rfl)) hS ?_
        simp only [putS]
        refine takeE 1 (some 24) rfl rfl (fun w e1 => by go_simp <;> (with_reducible rfl)) hS ?_
        simp only [putS]
        refine takeE 2 (some 25) rfl rfl (fun w e1 => by have z_v0 := e1.cell_some v0 (fun c => c); go_simp <;> (with_reducible rfl)) hS ?_
        simp only [putS]
        refine wpAnyH_ready (rs := [3]) (by kernel_rfl) (by simp) (AllReadyH.cons rfl (fun K3 hK3 => ?_) AllReadyH.nil)
        rw [if_pos (by kernel_rfl)]
        go_simp
        go_at_call 77
        refine (is17x _ Aj ts.length ct nj cj nm false HB1.out _ htl).mono ?_
        rintro e w8 ⟨rfl, rfl⟩
        simp only []
        refine hK3.out _ _ (hS.alloc _) (fun hS => ?_)
        try simp only [putS, List.getElem_toArray, List.getElem_cons_zero, List.getElem_cons_succ]
        refine takeE 4 (some 27) rfl rfl (fun w e1 => by go_simp <;> (with_reducible rfl)) hS ?_
        simp only [putS]
        refine takeE 5 (some 28) rfl rfl (fun w e1 => by go_simp <;> (with_reducible rfl)) hS ?_
        simp only [putS]
        refine takeF 6 (some 29) rfl rfl hS ?_
        simp only [putS]
        refine takeF 7 (some 30) rfl rfl hS ?_
        simp only [putS]
        refine takeF 8 (some 31) rfl rfl hS ?_
        simp only [putS]
        refine takeF 9 (some 32) rfl rfl hS ?_
        simp only [putS]
        refine takeF 10 (some 33) rfl rfl hS ?_
        simp only [putS]
        refine takeE 11 (some 34) rfl rfl (fun w e1 => by go_simp <;> (with_reducible rfl)) hS ?_
        simp only [putS]
        refine takeE 12 (some 35) rfl rfl (fun w e1 => by go_simp <;> (with_reducible rfl)) hS ?_
        simp only [putS]
        refine takeF 13 (some 36) rfl rfl hS ?_
        simp only [putS]
        refine takeF 14 (some 37) rfl rfl hS ?_
        simp only [putS]
        refine takeF 15 (some 38) rfl rfl hS ?_
        simp only [putS]
        refine takeF 16 (some 39) rfl rfl hS ?_
        simp only [putS]
        refine takeF 17 (some 40) rfl rfl hS ?_
        simp only [putS]
        refine takeF 18 (some 41) rfl rfl hS ?_
        simp only [putS]
        refine takeF 19 (some 42) rfl rfl hS ?_
        simp only [putS]
        refine takeF 20 (some 43) rfl rfl hS ?_
        simp only [putS]
        refine takeE 21 (some 44) rfl rfl (fun w e1 => by go_simp <;> (with_reducible rfl)) hS ?_
        simp only [putS]
        refine takeE 22 (some 45) rfl rfl (fun w e1 => by go_simp <;> (with_reducible rfl)) hS ?_
        simp only [putS]
        refine takeF 23 (some 46) rfl rfl hS ?_
        simp only [putS]
        refine takeF 24 (some 47) rfl rfl hS ?_
        simp only [putS]
        refine takeF 25 (some 48) rfl rfl hS ?_
        simp only [putS]
        refine takeF 26 (some 49) rfl rfl hS ?_
        simp only [putS]
        refine takeF 27 (some 50) rfl rfl hS ?_
        simp only [putS]
        refine takeF 28 (some 51) rfl rfl hS ?_
        simp only [putS]
        refine takeF 29 (some 52) rfl rfl hS ?_
        simp only [putS]
        refine takeF 30 (some 53) rfl rfl hS ?_
        simp only [putS]
        refine takeF 31 (some 54) rfl rfl hS ?_
        simp only [putS]
        refine takeF 32 (some 55) rfl rfl hS ?_
        simp only [putS]
        refine takeF 33 (some 56) rfl rfl hS ?_
        simp only [putS]
        refine takeF 34 (some 57) rfl rfl hS ?_
        simp only [putS]
        refine takeF 35 (some 58) rfl rfl hS ?_
        simp only [putS]
        refine takeF 36 (some 59) rfl rfl hS ?_
        simp only [putS]
        refine takeE 37 (some 60) rfl rfl (fun w e1 => by go_simp <;> (with_reducible rfl)) hS ?_
        simp only [putS]
        refine wpAnyH_done (by kernel_rfl) ?_ _
        go_wp2_with fail
        go_ret
        exact ⟨by rw [E.out]; rfl, (HBt.out.trans HXA.out).trans hS⟩
      | true =>
      obtain ⟨b2, hb2⟩ : ∃ b, textB vl ts.length = b := ⟨_, rfl⟩
      have HB2 := Lib.hid hb2
      clear hb2
      cases b2 with
      | false =>
        have E := Lib.hid (HBAD.out i hlt (by rw [HB.out, HB1.out, HB2.out]; rfl))
        refine wp_region_held_drew (S := (fun w' => But No (wr.alloc (.cells #[.int .i64 nm, .int .i64 vl] 81)) w')) (by kernel_rfl) ((But.refl No _).drewN 1) (fun hS => ?_)
        refine takeE 0 (some 23) rfl rfl (fun w e1 => by have z_q0 := e1.cell_some q0 (fun c => c); have z_q1 := e1.cell_some q1 (fun c => c); go_simp <;> (with_reducible rfl)) hS ?_
        simp only [putS]
        refine takeE 1 (some 24) rfl rfl (fun w e1 => by go_simp <;> (with_reducible rfl)) hS ?_
        simp only [putS]
        refine takeE 2 (some 25) rfl rfl (fun w e1 => by have z_v0 := e1.cell_some v0 (fun c => c); go_simp <;> (with_reducible rfl)) hS ?_
        simp only [putS]
        refine wpAnyH_ready (rs := [3]) (by kernel_rfl) (by simp) (AllReadyH.cons rfl (fun K3 hK3 => ?_) AllReadyH.nil)
        rw [if_pos (by kernel_rfl)]
        go_simp
        go_at_call 77
        refine (is17x _ Aj ts.length ct nj cj nm true HB1.out _ htl).mono ?_
        rintro e w8 ⟨rfl, rfl⟩
        simp only []
        refine hK3.out _ _ (hS.alloc _) (fun hS => ?_)
        try simp only [putS, List.getElem_toArray, List.getElem_cons_zero, List.getElem_cons_succ]
        refine takeE 4 (some 27) rfl rfl (fun w e1 => by go_simp <;> (with_reducible rfl)) hS ?_
        simp only [putS]
        refine takeE 5 (some 28) rfl rfl (fun w e1 => by go_simp <;> (with_reducible rfl)) hS ?_
        simp only [putS]
        refine takeE 6 (some 29) rfl rfl (fun w e1 => by have z_q0 := e1.cell_some q0 (fun c => c); have z_q1 := e1.cell_some q1 (fun c => c); go_simp <;> (with_reducible rfl)) hS ?_
        simp only [putS]
        refine takeE 7 (some 30) rfl rfl (fun w e1 => by go_simp <;> (with_reducible rfl)) hS ?_
        simp only [putS]
        refine takeE 8 (some 31) rfl rfl (fun w e1 => by have z_v1 := e1.cell_some v1 (fun c => c); go_simp <;> (with_reducible rfl)) hS ?_
        simp only [putS]
        refine wpAnyH_ready (rs := [9]) (by kernel_rfl) (by simp) (AllReadyH.cons rfl (fun K9 hK9 => ?_) AllReadyH.nil)
        rw [if_pos (by kernel_rfl)]
        go_simp
        go_at_call 77
        refine (is17x _ Aj ts.length ct nj cj vl false HB2.out _ htl).mono ?_
        rintro e w8 ⟨rfl, rfl⟩
        simp only []
        refine hK9.out _ _ (hS.alloc _) (fun hS => ?_)
        try simp only [putS, List.getElem_toArray, List.getElem_cons_zero, List.getElem_cons_succ]
        refine takeE 10 (some 33) rfl rfl (fun w e1 => by go_simp <;> (with_reducible rfl)) hS ?_
        simp only [putS]
        refine takeE 11 (some 34) rfl rfl (fun w e1 => by go_simp <;> (with_reducible rfl)) hS ?_
        simp only [putS]
        refine takeE 12 (some 35) rfl rfl (fun w e1 => by go_simp <;> (with_reducible rfl)) hS ?_
        simp only [putS]
        refine takeF 13 (some 36) rfl rfl hS ?_
        simp only [putS]
        refine takeF 14 (some 37) rfl rfl hS ?_
        simp only [putS]
        refine takeF 15 (some 38) rfl rfl hS ?_
        simp only [putS]
        refine takeF 16 (some 39) rfl rfl hS ?_
        simp only [putS]
        refine takeF 17 (some 40) rfl rfl hS ?_
        simp only [putS]
        refine takeF 18 (some 41) rfl rfl hS ?_
        simp only [putS]
        refine takeF 19 (some 42) rfl rfl hS ?_
        simp only [putS]
        refine takeF 20 (some 43) rfl rfl hS ?_
        simp only [putS]
        refine takeE 21 (some 44) rfl rfl (fun w e1 => by go_simp <;> (with_reducible rfl)) hS ?_
        simp only [putS]
        refine takeE 22 (some 45) rfl rfl (fun w e1 => by go_simp <;> (with_reducible rfl)) hS ?_
        simp only [putS]
        refine takeF 23 (some 46) rfl rfl hS ?_
        simp only [putS]
        refine takeF 24 (some 47) rfl rfl hS ?_
        simp only [putS]
        refine takeF 25 (some 48) rfl rfl hS ?_
        simp only [putS]
        refine takeF 26 (some 49) rfl rfl hS ?_
        simp only [putS]
        refine takeF 27 (some 50) rfl rfl hS ?_
        simp only [putS]
        refine takeF 28 (some 51) rfl rfl hS ?_
        simp only [putS]
        refine takeF 29 (some 52) rfl rfl hS ?_
        simp only [putS]
        refine takeF 30 (some 53) rfl rfl hS ?_
        simp only [putS]
        refine takeF 31 (some 54) rfl rfl hS ?_
        simp only [putS]
        refine takeF 32 (some 55) rfl rfl hS ?_
        simp only [putS]
        refine takeF 33 (some 56) rfl rfl hS ?_
        simp only [putS]
        refine takeF 34 (some 57) rfl rfl hS ?_
        simp only [putS]
        refine takeF 35 (some 58) rfl rfl hS ?_
        simp only [putS]
        refine takeF 36 (some 59) rfl rfl hS ?_
        simp only [putS]
        refine takeE 37 (some 60) rfl rfl (fun w e1 => by go_simp <;> (with_reducible rfl)) hS ?_
        simp only [putS]
        refine wpAnyH_done (by kernel_rfl) ?_ _
        go_wp2_with fail
        go_ret
        exact ⟨by rw [E.out]; rfl, (HBt.out.trans HXA.out).trans hS⟩
      | true =>
      have ht := HB1.out
      unfold textB at ht
      rw [Bool.and_eq_true, decide_eq_true_eq, decide_eq_true_eq] at ht
      obtain ⟨ht0, ht1⟩ := ht
      obtain ⟨m, rfl⟩ : ∃ m : Nat, nm = (m : Int) := ⟨nm.toNat, by omega⟩
      have hm : m < ts.length := by omega
      obtain ⟨ad2, hA2, k3⟩ := HT.out m hm
      cases hA2
      obtain ⟨tx, htx⟩ : ∃ tx, ts[m] = tx := ⟨_, rfl⟩
      have hts' : tx.size ≤ 9223372036854775807 := by rw [← htx]; exact HS.out _ (List.getElem_mem hm)
      have HTX := Lib.hid (show strAt ts (m : Int) = tx from by unfold strAt; rw [Int.toNat_natCast, List.getD_eq_getElem?_getD, List.getElem?_eq_getElem hm, htx]; rfl)
      rw [htx] at k3
      have k3' := HBt.out.cell_some k3 (fun c => c)
      have k3a := HXA.out.cell_some k3' (fun c => c)
      have hmi : (m : Int) < (ts.length : Int) := by omega
      have hmb : decide ((m : Int) < (ts.length : Int)) = true := decide_eq_true hmi
      clear htx k3 k3'
      obtain ⟨b3, hb3⟩ : ∃ b, varNameB tx = b := ⟨_, rfl⟩
      have HB3 := Lib.hid hb3
      clear hb3
      cases b3 with
      | false =>
        have E := Lib.hid (HBAD.out i hlt (by rw [HB.out, HB1.out, HB2.out, HTX.out, HB3.out]; rfl))
        refine wp_region_held_drew (S := (fun w' => But No (wr.alloc (.cells #[.int .i64 (m : Int), .int .i64 vl] 81)) w')) (by kernel_rfl) ((But.refl No _).drewN 1) (fun hS => ?_)
        refine takeE 0 (some 23) rfl rfl (fun w e1 => by have z_q0 := e1.cell_some q0 (fun c => c); have z_q1 := e1.cell_some q1 (fun c => c); go_simp <;> (with_reducible rfl)) hS ?_
        simp only [putS]
        refine takeE 1 (some 24) rfl rfl (fun w e1 => by go_simp <;> (with_reducible rfl)) hS ?_
        simp only [putS]
        refine takeE 2 (some 25) rfl rfl (fun w e1 => by have z_v0 := e1.cell_some v0 (fun c => c); go_simp <;> (with_reducible rfl)) hS ?_
        simp only [putS]
        refine wpAnyH_ready (rs := [3]) (by kernel_rfl) (by simp) (AllReadyH.cons rfl (fun K3 hK3 => ?_) AllReadyH.nil)
        rw [if_pos (by kernel_rfl)]
        go_simp
        go_at_call 77
        refine (is17x _ Aj ts.length ct nj cj (m : Int) true HB1.out _ htl).mono ?_
        rintro e w8 ⟨rfl, rfl⟩
        simp only []
        refine hK3.out _ _ (hS.alloc _) (fun hS => ?_)
        try simp only [putS, List.getElem_toArray, List.getElem_cons_zero, List.getElem_cons_succ]
        refine takeE 4 (some 27) rfl rfl (fun w e1 => by go_simp <;> (with_reducible rfl)) hS ?_
        simp only [putS]
        refine takeE 5 (some 28) rfl rfl (fun w e1 => by go_simp <;> (with_reducible rfl)) hS ?_
        simp only [putS]
        refine takeE 6 (some 29) rfl rfl (fun w e1 => by have z_q0 := e1.cell_some q0 (fun c => c); have z_q1 := e1.cell_some q1 (fun c => c); go_simp <;> (with_reducible rfl)) hS ?_
        simp only [putS]
        refine takeE 7 (some 30) rfl rfl (fun w e1 => by go_simp <;> (with_reducible rfl)) hS ?_
        simp only [putS]
        refine takeE 8 (some 31) rfl rfl (fun w e1 => by have z_v1 := e1.cell_some v1 (fun c => c); go_simp <;> (with_reducible rfl)) hS ?_
        simp only [putS]
        refine wpAnyH_ready (rs := [9]) (by kernel_rfl) (by simp) (AllReadyH.cons rfl (fun K9 hK9 => ?_) AllReadyH.nil)
        rw [if_pos (by kernel_rfl)]
        go_simp
        go_at_call 77
        refine (is17x _ Aj ts.length ct nj cj vl true HB2.out _ htl).mono ?_
        rintro e w8 ⟨rfl, rfl⟩
        simp only []
        refine hK9.out _ _ (hS.alloc _) (fun hS => ?_)
        try simp only [putS, List.getElem_toArray, List.getElem_cons_zero, List.getElem_cons_succ]
        refine takeE 10 (some 33) rfl rfl (fun w e1 => by go_simp <;> (with_reducible rfl)) hS ?_
        simp only [putS]
        refine takeE 11 (some 34) rfl rfl (fun w e1 => by go_simp <;> (with_reducible rfl)) hS ?_
        simp only [putS]
        refine takeE 12 (some 35) rfl rfl (fun w e1 => by go_simp <;> (with_reducible rfl)) hS ?_
        simp only [putS]
        refine takeE 13 (some 36) rfl rfl (fun w e1 => by go_simp <;> (with_reducible rfl)) hS ?_
        simp only [putS]
        refine takeE 14 (some 37) rfl rfl (fun w e1 => by have z_q0 := e1.cell_some q0 (fun c => c); go_simp <;> (with_reducible rfl)) hS ?_
        simp only [putS]
        refine takeE 15 (some 38) rfl rfl (fun w e1 => by go_simp <;> (with_reducible rfl)) hS ?_
        simp only [putS]
        refine takeE 16 (some 39) rfl rfl (fun w e1 => by have z_v0 := e1.cell_some v0 (fun c => c); go_simp <;> (with_reducible rfl)) hS ?_
        simp only [putS]
        refine takeE 17 (some 40) rfl rfl (fun w e1 => by go_simp <;> (with_reducible rfl)) hS ?_
        simp only [putS]
        refine takeE 18 (some 41) rfl rfl (fun w e1 => by have z_k3a := e1.cell_some k3a (fun c => c); go_simp <;> (with_reducible rfl)) hS ?_
        simp only [putS]
        refine wpAnyH_ready (rs := [19]) (by kernel_rfl) (by simp) (AllReadyH.cons rfl (fun K19 hK19 => ?_) AllReadyH.nil)
        rw [if_pos (by kernel_rfl)]
        go_simp
        go_at_call 86
        refine (varNameR0q tx false HB3.out _ hts').mono ?_
        rintro e w8 ⟨rfl, rfl⟩
        simp only []
        refine hK19.out _ _ hS (fun hS => ?_)
        try simp only [putS, List.getElem_toArray, List.getElem_cons_zero, List.getElem_cons_succ]
        refine takeE 20 (some 43) rfl rfl (fun w e1 => by go_simp <;> (with_reducible rfl)) hS ?_
        simp only [putS]
        refine takeE 21 (some 44) rfl rfl (fun w e1 => by go_simp <;> (with_reducible rfl)) hS ?_
        simp only [putS]
        refine takeE 22 (some 45) rfl rfl (fun w e1 => by go_simp <;> (with_reducible rfl)) hS ?_
        simp only [putS]
        refine takeF 23 (some 46) rfl rfl hS ?_
        simp only [putS]
        refine takeF 24 (some 47) rfl rfl hS ?_
        simp only [putS]
        refine takeF 25 (some 48) rfl rfl hS ?_
        simp only [putS]
        refine takeF 26 (some 49) rfl rfl hS ?_
        simp only [putS]
        refine takeF 27 (some 50) rfl rfl hS ?_
        simp only [putS]
        refine takeF 28 (some 51) rfl rfl hS ?_
        simp only [putS]
        refine takeF 29 (some 52) rfl rfl hS ?_
        simp only [putS]
        refine takeF 30 (some 53) rfl rfl hS ?_
        simp only [putS]
        refine takeF 31 (some 54) rfl rfl hS ?_
        simp only [putS]
        refine takeF 32 (some 55) rfl rfl hS ?_
        simp only [putS]
        refine takeF 33 (some 56) rfl rfl hS ?_
        simp only [putS]
        refine takeF 34 (some 57) rfl rfl hS ?_
        simp only [putS]
        refine takeF 35 (some 58) rfl rfl hS ?_
        simp only [putS]
        refine takeF 36 (some 59) rfl rfl hS ?_
        simp only [putS]
        refine takeE 37 (some 60) rfl rfl (fun w e1 => by go_simp <;> (with_reducible rfl)) hS ?_
        simp only [putS]
        refine wpAnyH_done (by kernel_rfl) ?_ _
        go_wp2_with fail
        go_ret
        exact ⟨by rw [E.out]; rfl, (HBt.out.trans HXA.out).trans hS⟩
      | true =>
      by_cases h0i : i = 0
      · have di : decide (0 < (i : Int)) = false := decide_eq_false (by omega)
        have di' : ¬ (0 : Int) < (i : Int) := by omega
        have diN : decide (0 < i) = false := decide_eq_false (by omega)
        have diN' : ¬ 0 < i := by omega
        have E := Lib.hid (HNX.out (by rw [HB.out, HB1.out, HB2.out, HTX.out, HB3.out, h0i]; rfl))
        clear h0i
        refine wp_region_held_drew (S := (fun w' => But No (wr.alloc (.cells #[.int .i64 (m : Int), .int .i64 vl] 81)) w')) (by kernel_rfl) ((But.refl No _).drewN 1) (fun hS => ?_)
        refine takeE 0 (some 23) rfl rfl (fun w e1 => by have z_q0 := e1.cell_some q0 (fun c => c); have z_q1 := e1.cell_some q1 (fun c => c); go_simp <;> (with_reducible rfl)) hS ?_
        simp only [putS]
        refine takeE 1 (some 24) rfl rfl (fun w e1 => by go_simp <;> (with_reducible rfl)) hS ?_
        simp only [putS]
        refine takeE 2 (some 25) rfl rfl (fun w e1 => by have z_v0 := e1.cell_some v0 (fun c => c); go_simp <;> (with_reducible rfl)) hS ?_
        simp only [putS]
        refine wpAnyH_ready (rs := [3]) (by kernel_rfl) (by simp) (AllReadyH.cons rfl (fun K3 hK3 => ?_) AllReadyH.nil)
        rw [if_pos (by kernel_rfl)]
        go_simp
        go_at_call 77
        refine (is17x _ Aj ts.length ct nj cj (m : Int) true HB1.out _ htl).mono ?_
        rintro e w8 ⟨rfl, rfl⟩
        simp only []
        refine hK3.out _ _ (hS.alloc _) (fun hS => ?_)
        try simp only [putS, List.getElem_toArray, List.getElem_cons_zero, List.getElem_cons_succ]
        refine takeE 4 (some 27) rfl rfl (fun w e1 => by go_simp <;> (with_reducible rfl)) hS ?_
        simp only [putS]
        refine takeE 5 (some 28) rfl rfl (fun w e1 => by go_simp <;> (with_reducible rfl)) hS ?_
        simp only [putS]
        refine takeE 6 (some 29) rfl rfl (fun w e1 => by have z_q0 := e1.cell_some q0 (fun c => c); have z_q1 := e1.cell_some q1 (fun c => c); go_simp <;> (with_reducible rfl)) hS ?_
        simp only [putS]
        refine takeE 7 (some 30) rfl rfl (fun w e1 => by go_simp <;> (with_reducible rfl)) hS ?_
        simp only [putS]
        refine takeE 8 (some 31) rfl rfl (fun w e1 => by have z_v1 := e1.cell_some v1 (fun c => c); go_simp <;> (with_reducible rfl)) hS ?_
        simp only [putS]
        refine wpAnyH_ready (rs := [9]) (by kernel_rfl) (by simp) (AllReadyH.cons rfl (fun K9 hK9 => ?_) AllReadyH.nil)
        rw [if_pos (by kernel_rfl)]
        go_simp
        go_at_call 77
        refine (is17x _ Aj ts.length ct nj cj vl true HB2.out _ htl).mono ?_
        rintro e w8 ⟨rfl, rfl⟩
        simp only []
        refine hK9.out _ _ (hS.alloc _) (fun hS => ?_)
        try simp only [putS, List.getElem_toArray, List.getElem_cons_zero, List.getElem_cons_succ]
        refine takeE 10 (some 33) rfl rfl (fun w e1 => by go_simp <;> (with_reducible rfl)) hS ?_
        simp only [putS]
        refine takeE 11 (some 34) rfl rfl (fun w e1 => by go_simp <;> (with_reducible rfl)) hS ?_
        simp only [putS]
        refine takeE 12 (some 35) rfl rfl (fun w e1 => by go_simp <;> (with_reducible rfl)) hS ?_
        simp only [putS]
        refine takeE 13 (some 36) rfl rfl (fun w e1 => by go_simp <;> (with_reducible rfl)) hS ?_
        simp only [putS]
        refine takeE 14 (some 37) rfl rfl (fun w e1 => by have z_q0 := e1.cell_some q0 (fun c => c); go_simp <;> (with_reducible rfl)) hS ?_
        simp only [putS]
        refine takeE 15 (some 38) rfl rfl (fun w e1 => by go_simp <;> (with_reducible rfl)) hS ?_
        simp only [putS]
        refine takeE 16 (some 39) rfl rfl (fun w e1 => by have z_v0 := e1.cell_some v0 (fun c => c); go_simp <;> (with_reducible rfl)) hS ?_
        simp only [putS]
        refine takeE 17 (some 40) rfl rfl (fun w e1 => by go_simp <;> (with_reducible rfl)) hS ?_
        simp only [putS]
        refine takeE 18 (some 41) rfl rfl (fun w e1 => by have z_k3a := e1.cell_some k3a (fun c => c); go_simp <;> (with_reducible rfl)) hS ?_
        simp only [putS]
        refine wpAnyH_ready (rs := [19]) (by kernel_rfl) (by simp) (AllReadyH.cons rfl (fun K19 hK19 => ?_) AllReadyH.nil)
        rw [if_pos (by kernel_rfl)]
        go_simp
        go_at_call 86
        refine (varNameR0q tx true HB3.out _ hts').mono ?_
        rintro e w8 ⟨rfl, rfl⟩
        simp only []
        refine hK19.out _ _ hS (fun hS => ?_)
        try simp only [putS, List.getElem_toArray, List.getElem_cons_zero, List.getElem_cons_succ]
        refine takeE 20 (some 43) rfl rfl (fun w e1 => by go_simp <;> (with_reducible rfl)) hS ?_
        simp only [putS]
        refine takeE 21 (some 44) rfl rfl (fun w e1 => by go_simp <;> (with_reducible rfl)) hS ?_
        simp only [putS]
        refine takeE 22 (some 45) rfl rfl (fun w e1 => by go_simp <;> (with_reducible rfl)) hS ?_
        simp only [putS]
        refine takeE 23 (some 46) rfl rfl (fun w e1 => by go_simp <;> (with_reducible rfl)) hS ?_
        simp only [putS]
        refine takeE 24 (some 47) rfl rfl (fun w e1 => by go_simp <;> (with_reducible rfl)) hS ?_
        simp only [putS]
        refine takeE 25 (some 48) rfl rfl (fun w e1 => by go_simp <;> (with_reducible rfl)) hS ?_
        simp only [putS]
        refine takeF 26 (some 49) rfl rfl hS ?_
        simp only [putS]
        refine takeF 27 (some 50) rfl rfl hS ?_
        simp only [putS]
        refine takeF 28 (some 51) rfl rfl hS ?_
        simp only [putS]
        refine takeF 29 (some 52) rfl rfl hS ?_
        simp only [putS]
        refine takeF 30 (some 53) rfl rfl hS ?_
        simp only [putS]
        refine takeF 31 (some 54) rfl rfl hS ?_
        simp only [putS]
        refine takeF 32 (some 55) rfl rfl hS ?_
        simp only [putS]
        refine takeF 33 (some 56) rfl rfl hS ?_
        simp only [putS]
        refine takeF 34 (some 57) rfl rfl hS ?_
        simp only [putS]
        refine takeF 35 (some 58) rfl rfl hS ?_
        simp only [putS]
        refine takeE 36 (some 59) rfl rfl (fun w e1 => by go_simp <;> (with_reducible rfl)) hS ?_
        simp only [putS]
        refine takeE 37 (some 60) rfl rfl (fun w e1 => by go_simp <;> (with_reducible rfl)) hS ?_
        simp only [putS]
        refine wpAnyH_done (by kernel_rfl) ?_ _
        go_wp2_with fail
        go_roundg (vs.length - (i + 1))
        case measure => rw [HGK.out]; omega
        case rel => exact ⟨i + 1, rfl, by omega, by go_num, (HBW.out.trans HXA.out).trans hS, E.out⟩
      obtain ⟨k, rfl⟩ : ∃ k, i = k + 1 := ⟨i - 1, by omega⟩
      obtain ⟨ad3, hA3, k4, k5⟩ := HV.out k (by omega)
      cases hA3
      obtain ⟨⟨q, ql⟩, hq⟩ : ∃ p, vs[k] = p := ⟨_, rfl⟩
      have hqd : vs.getD k (0, 0) = (q, ql) := by rw [List.getD_eq_getElem?_getD, List.getElem?_eq_getElem (by omega), hq]; rfl
      rw [hq] at k4
      dsimp only at k4
      have k4a := HXA.out.cell_some (HBt.out.cell_some k4 (fun c => c)) (fun c => c)
      have HB4 := Lib.hid (show varB ts vs (k + 1) = decide (q < (m : Int)) from by rw [HB.out, HB1.out, HB2.out, HTX.out, HB3.out, Nat.add_sub_cancel, hqd]; rfl)
      have d3 : decide ((0 : Int) < ((k + 1 : Nat) : Int)) = true := decide_eq_true (by omega)
      have d3' : decide ((0 : Int) < (k : Int) + 1) = true := decide_eq_true (by omega)
      have hwk : IntKind.i64.wrap (k : Int) = (k : Int) := by rw [IntKind.wrap_i64]; omega
      have hkl : (k : Int) < (vs.length : Int) := by omega
      have hklN : k < vs.length := by omega
      clear hq hqd k4 k5 h0i
      by_cases c4 : (m : Int) ≤ q
      · have d4 : decide ((m : Int) ≤ q) = true := decide_eq_true c4
        have E := Lib.hid (HBAD.out (k + 1) hlt (by rw [HB4.out, decide_eq_false (by omega)]))
        refine wp_region_held_drew (S := (fun w' => But No (wr.alloc (.cells #[.int .i64 (m : Int), .int .i64 vl] 81)) w')) (by kernel_rfl) ((But.refl No _).drewN 1) (fun hS => ?_)
        refine takeE 0 (some 23) rfl rfl (fun w e1 => by have z_q0 := e1.cell_some q0 (fun c => c); have z_q1 := e1.cell_some q1 (fun c => c); go_simp <;> (with_reducible rfl)) hS ?_
        simp only [putS]
        refine takeE 1 (some 24) rfl rfl (fun w e1 => by go_simp <;> (with_reducible rfl)) hS ?_
        simp only [putS]
        refine takeE 2 (some 25) rfl rfl (fun w e1 => by have z_v0 := e1.cell_some v0 (fun c => c); go_simp <;> (with_reducible rfl)) hS ?_
        simp only [putS]
        refine wpAnyH_ready (rs := [3]) (by kernel_rfl) (by simp) (AllReadyH.cons rfl (fun K3 hK3 => ?_) AllReadyH.nil)
        rw [if_pos (by kernel_rfl)]
        go_simp
        go_at_call 77
        refine (is17x _ Aj ts.length ct nj cj (m : Int) true HB1.out _ htl).mono ?_
        rintro e w8 ⟨rfl, rfl⟩
        simp only []
        refine hK3.out _ _ (hS.alloc _) (fun hS => ?_)
        try simp only [putS, List.getElem_toArray, List.getElem_cons_zero, List.getElem_cons_succ]
        refine takeE 4 (some 27) rfl rfl (fun w e1 => by go_simp <;> (with_reducible rfl)) hS ?_
        simp only [putS]
        refine takeE 5 (some 28) rfl rfl (fun w e1 => by go_simp <;> (with_reducible rfl)) hS ?_
        simp only [putS]
        refine takeE 6 (some 29) rfl rfl (fun w e1 => by have z_q0 := e1.cell_some q0 (fun c => c); have z_q1 := e1.cell_some q1 (fun c => c); go_simp <;> (with_reducible rfl)) hS ?_
        simp only [putS]
        refine takeE 7 (some 30) rfl rfl (fun w e1 => by go_simp <;> (with_reducible rfl)) hS ?_
        simp only [putS]
        refine takeE 8 (some 31) rfl rfl (fun w e1 => by have z_v1 := e1.cell_some v1 (fun c => c); go_simp <;> (with_reducible rfl)) hS ?_
        simp only [putS]
        refine wpAnyH_ready (rs := [9]) (by kernel_rfl) (by simp) (AllReadyH.cons rfl (fun K9 hK9 => ?_) AllReadyH.nil)
        rw [if_pos (by kernel_rfl)]
        go_simp
        go_at_call 77
        refine (is17x _ Aj ts.length ct nj cj vl true HB2.out _ htl).mono ?_
        rintro e w8 ⟨rfl, rfl⟩
        simp only []
        refine hK9.out _ _ (hS.alloc _) (fun hS => ?_)
        try simp only [putS, List.getElem_toArray, List.getElem_cons_zero, List.getElem_cons_succ]
        refine takeE 10 (some 33) rfl rfl (fun w e1 => by go_simp <;> (with_reducible rfl)) hS ?_
        simp only [putS]
        refine takeE 11 (some 34) rfl rfl (fun w e1 => by go_simp <;> (with_reducible rfl)) hS ?_
        simp only [putS]
        refine takeE 12 (some 35) rfl rfl (fun w e1 => by go_simp <;> (with_reducible rfl)) hS ?_
        simp only [putS]
        refine takeE 13 (some 36) rfl rfl (fun w e1 => by go_simp <;> (with_reducible rfl)) hS ?_
        simp only [putS]
        refine takeE 14 (some 37) rfl rfl (fun w e1 => by have z_q0 := e1.cell_some q0 (fun c => c); go_simp <;> (with_reducible rfl)) hS ?_
        simp only [putS]
        refine takeE 15 (some 38) rfl rfl (fun w e1 => by go_simp <;> (with_reducible rfl)) hS ?_
        simp only [putS]
        refine takeE 16 (some 39) rfl rfl (fun w e1 => by have z_v0 := e1.cell_some v0 (fun c => c); go_simp <;> (with_reducible rfl)) hS ?_
        simp only [putS]
        refine takeE 17 (some 40) rfl rfl (fun w e1 => by go_simp <;> (with_reducible rfl)) hS ?_
        simp only [putS]
        refine takeE 18 (some 41) rfl rfl (fun w e1 => by have z_k3a := e1.cell_some k3a (fun c => c); go_simp <;> (with_reducible rfl)) hS ?_
        simp only [putS]
        refine wpAnyH_ready (rs := [19]) (by kernel_rfl) (by simp) (AllReadyH.cons rfl (fun K19 hK19 => ?_) AllReadyH.nil)
        rw [if_pos (by kernel_rfl)]
        go_simp
        go_at_call 86
        refine (varNameR0q tx true HB3.out _ hts').mono ?_
        rintro e w8 ⟨rfl, rfl⟩
        simp only []
        refine hK19.out _ _ hS (fun hS => ?_)
        try simp only [putS, List.getElem_toArray, List.getElem_cons_zero, List.getElem_cons_succ]
        refine takeE 20 (some 43) rfl rfl (fun w e1 => by go_simp <;> (with_reducible rfl)) hS ?_
        simp only [putS]
        refine takeE 21 (some 44) rfl rfl (fun w e1 => by go_simp <;> (with_reducible rfl)) hS ?_
        simp only [putS]
        refine takeE 22 (some 45) rfl rfl (fun w e1 => by go_simp <;> (with_reducible rfl)) hS ?_
        simp only [putS]
        refine takeE 23 (some 46) rfl rfl (fun w e1 => by go_simp <;> (with_reducible rfl)) hS ?_
        simp only [putS]
        refine takeE 24 (some 47) rfl rfl (fun w e1 => by go_simp <;> (with_reducible rfl)) hS ?_
        simp only [putS]
        refine takeE 25 (some 48) rfl rfl (fun w e1 => by go_simp <;> (with_reducible rfl)) hS ?_
        simp only [putS]
        refine takeE 26 (some 49) rfl rfl (fun w e1 => by go_simp <;> (with_reducible rfl)) hS ?_
        simp only [putS]
        refine takeE 27 (some 50) rfl rfl (fun w e1 => by have z_v0 := e1.cell_some v0 (fun c => c); go_simp <;> (with_reducible rfl)) hS ?_
        simp only [putS]
        refine takeE 28 (some 51) rfl rfl (fun w e1 => by go_simp <;> (with_reducible rfl)) hS ?_
        simp only [putS]
        refine takeE 29 (some 52) rfl rfl (fun w e1 => by have z_q7 := e1.cell_some q7 (fun c => c); go_simp <;> (with_reducible rfl)) hS ?_
        simp only [putS]
        refine takeE 30 (some 53) rfl rfl (fun w e1 => by go_simp <;> (with_reducible rfl)) hS ?_
        simp only [putS]
        refine takeE 31 (some 54) rfl rfl (fun w e1 => by go_simp <;> (with_reducible rfl)) hS ?_
        simp only [putS]
        refine takeE 32 (some 55) rfl rfl (fun w e1 => by go_simp <;> (with_reducible rfl)) hS ?_
        simp only [putS]
        refine takeE 33 (some 56) rfl rfl (fun w e1 => by go_simp <;> (with_reducible rfl)) hS ?_
        simp only [putS]
        refine takeE 34 (some 57) rfl rfl (fun w e1 => by have z_k4a := e1.cell_some k4a (fun c => c); go_simp <;> (with_reducible rfl)) hS ?_
        simp only [putS]
        refine takeE 35 (some 58) rfl rfl (fun w e1 => by go_simp <;> (with_reducible rfl)) hS ?_
        simp only [putS]
        refine takeE 36 (some 59) rfl rfl (fun w e1 => by go_simp <;> (with_reducible rfl)) hS ?_
        simp only [putS]
        refine takeE 37 (some 60) rfl rfl (fun w e1 => by go_simp <;> (with_reducible rfl)) hS ?_
        simp only [putS]
        refine wpAnyH_done (by kernel_rfl) ?_ _
        go_wp2_with fail
        go_ret
        exact ⟨by rw [E.out]; rfl, (HBt.out.trans HXA.out).trans hS⟩
      · have d4 : decide ((m : Int) ≤ q) = false := decide_eq_false c4
        have E := Lib.hid (HNX.out (by rw [HB4.out, decide_eq_true (by omega)]))
        refine wp_region_held_drew (S := (fun w' => But No (wr.alloc (.cells #[.int .i64 (m : Int), .int .i64 vl] 81)) w')) (by kernel_rfl) ((But.refl No _).drewN 1) (fun hS => ?_)
        refine takeE 0 (some 23) rfl rfl (fun w e1 => by have z_q0 := e1.cell_some q0 (fun c => c); have z_q1 := e1.cell_some q1 (fun c => c); go_simp <;> (with_reducible rfl)) hS ?_
        simp only [putS]
        refine takeE 1 (some 24) rfl rfl (fun w e1 => by go_simp <;> (with_reducible rfl)) hS ?_
        simp only [putS]
        refine takeE 2 (some 25) rfl rfl (fun w e1 => by have z_v0 := e1.cell_some v0 (fun c => c); go_simp <;> (with_reducible rfl)) hS ?_
        simp only [putS]
        refine wpAnyH_ready (rs := [3]) (by kernel_rfl) (by simp) (AllReadyH.cons rfl (fun K3 hK3 => ?_) AllReadyH.nil)
        rw [if_pos (by kernel_rfl)]
        go_simp
        go_at_call 77
        refine (is17x _ Aj ts.length ct nj cj (m : Int) true HB1.out _ htl).mono ?_
        rintro e w8 ⟨rfl, rfl⟩
        simp only []
        refine hK3.out _ _ (hS.alloc _) (fun hS => ?_)
        try simp only [putS, List.getElem_toArray, List.getElem_cons_zero, List.getElem_cons_succ]
        refine takeE 4 (some 27) rfl rfl (fun w e1 => by go_simp <;> (with_reducible rfl)) hS ?_
        simp only [putS]
        refine takeE 5 (some 28) rfl rfl (fun w e1 => by go_simp <;> (with_reducible rfl)) hS ?_
        simp only [putS]
        refine takeE 6 (some 29) rfl rfl (fun w e1 => by have z_q0 := e1.cell_some q0 (fun c => c); have z_q1 := e1.cell_some q1 (fun c => c); go_simp <;> (with_reducible rfl)) hS ?_
        simp only [putS]
        refine takeE 7 (some 30) rfl rfl (fun w e1 => by go_simp <;> (with_reducible rfl)) hS ?_
        simp only [putS]
        refine takeE 8 (some 31) rfl rfl (fun w e1 => by have z_v1 := e1.cell_some v1 (fun c => c); go_simp <;> (with_reducible rfl)) hS ?_
        simp only [putS]
        refine wpAnyH_ready (rs := [9]) (by kernel_rfl) (by simp) (AllReadyH.cons rfl (fun K9 hK9 => ?_) AllReadyH.nil)
        rw [if_pos (by kernel_rfl)]
        go_simp
        go_at_call 77
        refine (is17x _ Aj ts.length ct nj cj vl true HB2.out _ htl).mono ?_
        rintro e w8 ⟨rfl, rfl⟩
        simp only []
        refine hK9.out _ _ (hS.alloc _) (fun hS => ?_)
        try simp only [putS, List.getElem_toArray, List.getElem_cons_zero, List.getElem_cons_succ]
        refine takeE 10 (some 33) rfl rfl (fun w e1 => by go_simp <;> (with_reducible rfl)) hS ?_
        simp only [putS]
        refine takeE 11 (some 34) rfl rfl (fun w e1 => by go_simp <;> (with_reducible rfl)) hS ?_
        simp only [putS]
        refine takeE 12 (some 35) rfl rfl (fun w e1 => by go_simp <;> (with_reducible rfl)) hS ?_
        simp only [putS]
        refine takeE 13 (some 36) rfl rfl (fun w e1 => by go_simp <;> (with_reducible rfl)) hS ?_
        simp only [putS]
        refine takeE 14 (some 37) rfl rfl (fun w e1 => by have z_q0 := e1.cell_some q0 (fun c => c); go_simp <;> (with_reducible rfl)) hS ?_
        simp only [putS]
        refine takeE 15 (some 38) rfl rfl (fun w e1 => by go_simp <;> (with_reducible rfl)) hS ?_
        simp only [putS]
        refine takeE 16 (some 39) rfl rfl (fun w e1 => by have z_v0 := e1.cell_some v0 (fun c => c); go_simp <;> (with_reducible rfl)) hS ?_
        simp only [putS]
        refine takeE 17 (some 40) rfl rfl (fun w e1 => by go_simp <;> (with_reducible rfl)) hS ?_
        simp only [putS]
        refine takeE 18 (some 41) rfl rfl (fun w e1 => by have z_k3a := e1.cell_some k3a (fun c => c); go_simp <;> (with_reducible rfl)) hS ?_
        simp only [putS]
        refine wpAnyH_ready (rs := [19]) (by kernel_rfl) (by simp) (AllReadyH.cons rfl (fun K19 hK19 => ?_) AllReadyH.nil)
        rw [if_pos (by kernel_rfl)]
        go_simp
        go_at_call 86
        refine (varNameR0q tx true HB3.out _ hts').mono ?_
        rintro e w8 ⟨rfl, rfl⟩
        simp only []
        refine hK19.out _ _ hS (fun hS => ?_)
        try simp only [putS, List.getElem_toArray, List.getElem_cons_zero, List.getElem_cons_succ]
        refine takeE 20 (some 43) rfl rfl (fun w e1 => by go_simp <;> (with_reducible rfl)) hS ?_
        simp only [putS]
        refine takeE 21 (some 44) rfl rfl (fun w e1 => by go_simp <;> (with_reducible rfl)) hS ?_
        simp only [putS]
        refine takeE 22 (some 45) rfl rfl (fun w e1 => by go_simp <;> (with_reducible rfl)) hS ?_
        simp only [putS]
        refine takeE 23 (some 46) rfl rfl (fun w e1 => by go_simp <;> (with_reducible rfl)) hS ?_
        simp only [putS]
        refine takeE 24 (some 47) rfl rfl (fun w e1 => by go_simp <;> (with_reducible rfl)) hS ?_
        simp only [putS]
        refine takeE 25 (some 48) rfl rfl (fun w e1 => by go_simp <;> (with_reducible rfl)) hS ?_
        simp only [putS]
        refine takeE 26 (some 49) rfl rfl (fun w e1 => by go_simp <;> (with_reducible rfl)) hS ?_
        simp only [putS]
        refine takeE 27 (some 50) rfl rfl (fun w e1 => by have z_v0 := e1.cell_some v0 (fun c => c); go_simp <;> (with_reducible rfl)) hS ?_
        simp only [putS]
        refine takeE 28 (some 51) rfl rfl (fun w e1 => by go_simp <;> (with_reducible rfl)) hS ?_
        simp only [putS]
        refine takeE 29 (some 52) rfl rfl (fun w e1 => by have z_q7 := e1.cell_some q7 (fun c => c); go_simp <;> (with_reducible rfl)) hS ?_
        simp only [putS]
        refine takeE 30 (some 53) rfl rfl (fun w e1 => by go_simp <;> (with_reducible rfl)) hS ?_
        simp only [putS]
        refine takeE 31 (some 54) rfl rfl (fun w e1 => by go_simp <;> (with_reducible rfl)) hS ?_
        simp only [putS]
        refine takeE 32 (some 55) rfl rfl (fun w e1 => by go_simp <;> (with_reducible rfl)) hS ?_
        simp only [putS]
        refine takeE 33 (some 56) rfl rfl (fun w e1 => by go_simp <;> (with_reducible rfl)) hS ?_
        simp only [putS]
        refine takeE 34 (some 57) rfl rfl (fun w e1 => by have z_k4a := e1.cell_some k4a (fun c => c); go_simp <;> (with_reducible rfl)) hS ?_
        simp only [putS]
        refine takeE 35 (some 58) rfl rfl (fun w e1 => by go_simp <;> (with_reducible rfl)) hS ?_
        simp only [putS]
        refine takeE 36 (some 59) rfl rfl (fun w e1 => by go_simp <;> (with_reducible rfl)) hS ?_
        simp only [putS]
        refine takeE 37 (some 60) rfl rfl (fun w e1 => by go_simp <;> (with_reducible rfl)) hS ?_
        simp only [putS]
        refine wpAnyH_done (by kernel_rfl) ?_ _
        go_wp2_with fail
        go_roundg (vs.length - (k + 1 + 1))
        case measure => rw [HGK.out]; omega
        case rel => exact ⟨k + 1 + 1, rfl, by omega, by go_num, (HBW.out.trans HXA.out).trans hS, E.out⟩
    · obtain rfl : i = vs.length := by omega
      have hlt' : ¬ (vs.length : Int) < (vs.length : Int) := by omega
      have E := Lib.hid (show varsB ts vs = true from by unfold varsB; rw [decide_eq_true H256.out, HA.out]; rfl)
      go_wp2_with fail
      go_ret
      exact ⟨by rw [E.out]; rfl, HBt.out⟩
end Go.Proofs.Ytoaopjbgaehpfaa.G
