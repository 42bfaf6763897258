/- The reference's plan: one job (printed by gen_nm.py). -/
import Derived.Test.YtoaopjbgaehpfaaQNl
import Derived.Test.YtoaopjbgaehpfaaQJh
namespace Go.Proofs.Ytoaopjbgaehpfaa.G
open Go.RowKit
attribute [local simp, local go_sem] alloc_drewN setCell_drewN
set_option linter.unusedVariables false
set_option linter.unusedSimpArgs false
set_option maxRecDepth 100000
set_option maxHeartbeats 8000000 in
theorem job17 (At Aj : Option Addr) (ct cj : Nat) (ts : List ByteArray) (js : List JobP) (no : Nat) (hno : no < js.length) (w : World)
    (hT : StrsIn w At ts) (hJ : JobsIn w Aj js) (hts : ∀ s ∈ ts, s.size ≤ 9223372036854775807) (htl : ts.length ≤ 9223372036854775807) (hjl : js.length ≤ 9223372036854775807) (hF : JobFits js[no]) :
    Calls Try.prog 68 #[.agg #[.slice At ts.length ct, .slice Aj js.length cj], .int .i64 (no : Int)] w fun e w' => e = .returned (.int .i64 (jobC ts ((js.take no).map (·.one.name)) no js[no])) ∧ But No w w' := by
  obtain ⟨adj, hA, Ar, Av, Ap, cr, cv, cp, hI⟩ := hJ no hno
  cases hA
  obtain ⟨j, hj⟩ : ∃ j, js[no] = j := ⟨_, rfl⟩
  rw [hj] at hI hF ⊢
  obtain ⟨⟨nm, rn, sg, wh, wt⟩, al, rs, vs, ps⟩ := j
  obtain ⟨seen, hseen⟩ : ∃ s, (js.take no).map (·.one.name) = s := ⟨_, rfl⟩
  rw [hseen]
  have HSEEN := Lib.hid hseen
  obtain ⟨R, hR⟩ : ∃ R, jobC ts seen no ⟨⟨nm, rn, sg, wh, wt⟩, al, rs, vs, ps⟩ = R := ⟨_, rfl⟩
  rw [hR]
  have HR := Lib.hid hR
  have HT := Lib.hid hT
  have HJ := Lib.hid hJ
  have HS := Lib.hid hts
  have HI := Lib.hid hI
  have HF := Lib.hid hF
  have H171 : Hid (fieldsB ts.length seen ⟨nm, rn, sg, wh, wt⟩ = false → R = 171) := Lib.hid (fun h => HR.out.symm.trans (by unfold jobC; rw [if_neg (by dsimp only; rw [h]; exact Bool.false_ne_true)]))
  have B0 := (But.refl No w).alloc (.cells #[.slice At ts.length ct, .slice (some adj) js.length cj] 25)
  have k0 := B0.cell_some hI.c0 (fun c => c)
  have k1 := B0.cell_some hI.c1 (fun c => c)
  have k2 := B0.cell_some hI.c2 (fun c => c)
  have k3 := B0.cell_some hI.c3 (fun c => c)
  have k4 := B0.cell_some hI.c4 (fun c => c)
  have k5 := B0.cell_some hI.c5 (fun c => c)
  have k6 := B0.cell_some hI.c6 (fun c => c)
  have k7 := B0.cell_some hI.c7 (fun c => c)
  have k8 := B0.cell_some hI.c8 (fun c => c)
  dsimp only at k0 k1 k2 k3 k4 k5 k6 k7 k8
  have hlt' : (no : Int) < (js.length : Int) := by omega
  have dl : decide ((no : Int) < (js.length : Int)) = true := decide_eq_true hlt'
  clear hj hseen hR hT hJ hts hI hF B0
  obtain ⟨b1, hb1⟩ : ∃ b, textB nm ts.length = b := ⟨_, rfl⟩
  have HB1 := Lib.hid hb1
  clear hb1
  cases b1 with
  | false =>
    have E := Lib.hid (H171.out (by unfold fieldsB; dsimp only; rw [HB1.out]; simp))
    go_enter Try.func68, Try.ntmps68
    go_wp2_with (first | (go_at_call 77; with_reducible refine (is17x _ _ ts.length _ _ _ nm false HB1.out _ htl).mono ?_; rintro e w8 ⟨rfl, rfl⟩))
    go_ret
    exact ⟨by rw [E.out]; rfl, (by repeat (first | exact But.refl _ _ | refine But.alloc ?_ _))⟩
  | true =>
  obtain ⟨b2, hb2⟩ : ∃ b, textB rn ts.length = b := ⟨_, rfl⟩
  have HB2 := Lib.hid hb2
  clear hb2
  cases b2 with
  | false =>
    have E := Lib.hid (H171.out (by unfold fieldsB; dsimp only; rw [HB2.out]; simp))
    go_enter Try.func68, Try.ntmps68
    go_wp2_with (first | (go_at_call 77; with_reducible refine (is17x _ _ ts.length _ _ _ nm true HB1.out _ htl).mono ?_; rintro e w8 ⟨rfl, rfl⟩) | (go_at_call 77; with_reducible refine (is17x _ _ ts.length _ _ _ rn false HB2.out _ htl).mono ?_; rintro e w8 ⟨rfl, rfl⟩))
    go_ret
    exact ⟨by rw [E.out]; rfl, (by repeat (first | exact But.refl _ _ | refine But.alloc ?_ _))⟩
  | true =>
  by_cases cc4 : sg < 0
  · have HB4 := Lib.hid (show decide (0 ≤ sg) = false from decide_eq_false (by omega))
    have dd4 : decide (sg < 0) = true := decide_eq_true cc4
    have E := Lib.hid (H171.out (by unfold fieldsB; dsimp only; rw [HB4.out]; simp))
    go_enter Try.func68, Try.ntmps68
    go_wp2_with (first | (go_at_call 77; with_reducible refine (is17x _ _ ts.length _ _ _ nm true HB1.out _ htl).mono ?_; rintro e w8 ⟨rfl, rfl⟩) | (go_at_call 77; with_reducible refine (is17x _ _ ts.length _ _ _ rn true HB2.out _ htl).mono ?_; rintro e w8 ⟨rfl, rfl⟩))
    go_ret
    exact ⟨by rw [E.out]; rfl, (by repeat (first | exact But.refl _ _ | refine But.alloc ?_ _))⟩
  have HB4 := Lib.hid (show decide (0 ≤ sg) = true from decide_eq_true (by omega))
  have dd4 : decide (sg < 0) = false := decide_eq_false cc4
  by_cases cc5 : (64 : Int) ≤ sg
  · have HB5 := Lib.hid (show decide (sg < 64) = false from decide_eq_false (by omega))
    have dd5 : decide ((64 : Int) ≤ sg) = true := decide_eq_true cc5
    have E := Lib.hid (H171.out (by unfold fieldsB; dsimp only; rw [HB5.out]; simp))
    go_enter Try.func68, Try.ntmps68
    go_wp2_with (first | (go_at_call 77; with_reducible refine (is17x _ _ ts.length _ _ _ nm true HB1.out _ htl).mono ?_; rintro e w8 ⟨rfl, rfl⟩) | (go_at_call 77; with_reducible refine (is17x _ _ ts.length _ _ _ rn true HB2.out _ htl).mono ?_; rintro e w8 ⟨rfl, rfl⟩))
    go_ret
    exact ⟨by rw [E.out]; rfl, (by repeat (first | exact But.refl _ _ | refine But.alloc ?_ _))⟩
  have HB5 := Lib.hid (show decide (sg < 64) = true from decide_eq_true (by omega))
  have dd5 : decide ((64 : Int) ≤ sg) = false := decide_eq_false cc5
  obtain ⟨b6, hb6⟩ : ∃ b, whenB wh = b := ⟨_, rfl⟩
  have HB6 := Lib.hid hb6
  clear hb6
  cases b6 with
  | false =>
    have E := Lib.hid (H171.out (by unfold fieldsB; dsimp only; rw [HB6.out]; simp))
    go_enter Try.func68, Try.ntmps68
    go_wp2_with (first | (go_at_call 77; with_reducible refine (is17x _ _ ts.length _ _ _ nm true HB1.out _ htl).mono ?_; rintro e w8 ⟨rfl, rfl⟩) | (go_at_call 77; with_reducible refine (is17x _ _ ts.length _ _ _ rn true HB2.out _ htl).mono ?_; rintro e w8 ⟨rfl, rfl⟩) | (go_at_call 78; refine (whenIs0q wh false HB6.out _).mono ?_; rintro e w8 ⟨rfl, rfl⟩))
    go_ret
    exact ⟨by rw [E.out]; rfl, (by repeat (first | exact But.refl _ _ | refine But.alloc ?_ _))⟩
  | true =>
  by_cases cc7 : wt < 0
  · have HB7 := Lib.hid (show decide (0 ≤ wt) = false from decide_eq_false (by omega))
    have dd7 : decide (wt < 0) = true := decide_eq_true cc7
    have E := Lib.hid (H171.out (by unfold fieldsB; dsimp only; rw [HB7.out]; simp))
    go_enter Try.func68, Try.ntmps68
    go_wp2_with (first | (go_at_call 77; with_reducible refine (is17x _ _ ts.length _ _ _ nm true HB1.out _ htl).mono ?_; rintro e w8 ⟨rfl, rfl⟩) | (go_at_call 77; with_reducible refine (is17x _ _ ts.length _ _ _ rn true HB2.out _ htl).mono ?_; rintro e w8 ⟨rfl, rfl⟩) | (go_at_call 78; refine (whenIs0q wh true HB6.out _).mono ?_; rintro e w8 ⟨rfl, rfl⟩))
    go_ret
    exact ⟨by rw [E.out]; rfl, (by repeat (first | exact But.refl _ _ | refine But.alloc ?_ _))⟩
  have HB7 := Lib.hid (show decide (0 ≤ wt) = true from decide_eq_true (by omega))
  have dd7 : decide (wt < 0) = false := decide_eq_false cc7
  by_cases cc8 : (1000 : Int) < wt
  · have HB8 := Lib.hid (show decide (wt ≤ 1000) = false from decide_eq_false (by omega))
    have dd8 : decide ((1000 : Int) < wt) = true := decide_eq_true cc8
    have E := Lib.hid (H171.out (by unfold fieldsB; dsimp only; rw [HB8.out]; simp))
    go_enter Try.func68, Try.ntmps68
    go_wp2_with (first | (go_at_call 77; with_reducible refine (is17x _ _ ts.length _ _ _ nm true HB1.out _ htl).mono ?_; rintro e w8 ⟨rfl, rfl⟩) | (go_at_call 77; with_reducible refine (is17x _ _ ts.length _ _ _ rn true HB2.out _ htl).mono ?_; rintro e w8 ⟨rfl, rfl⟩) | (go_at_call 78; refine (whenIs0q wh true HB6.out _).mono ?_; rintro e w8 ⟨rfl, rfl⟩))
    go_ret
    exact ⟨by rw [E.out]; rfl, (by repeat (first | exact But.refl _ _ | refine But.alloc ?_ _))⟩
  have HB8 := Lib.hid (show decide (wt ≤ 1000) = true from decide_eq_true (by omega))
  have dd8 : decide ((1000 : Int) < wt) = false := decide_eq_false cc8
  obtain ⟨W, hW⟩ : ∃ W, ((((w.alloc (.cells #[.slice At ts.length ct, .slice (some adj) js.length cj] 25)).alloc (.cells #[.int .i64 nm, .int .i64 rn, .int .i64 sg, .int .i64 wh, .bool al, .int .i64 wt, .slice Ar rs.length cr, .slice Av vs.length cv, .slice Ap ps.length cp] 52)).alloc (.cells #[.slice At ts.length ct, .slice (some adj) js.length cj] 25)).alloc (.cells #[.slice At ts.length ct, .slice (some adj) js.length cj] 25)) = W := ⟨_, rfl⟩
  have HW := Lib.hid (show But No w W from by rw [← hW]; exact ((((But.refl No w).alloc _).alloc _).alloc _).alloc _)
  have HBP := Lib.hid (show W.heap[w.heap.size]? = some (.cells #[.slice At ts.length ct, .slice (some adj) js.length cj] 25 (0, 0)) from by rw [← hW]; exact ((((But.refl No _).alloc _).alloc _).block w.heap.size (by simp; omega) (fun c => c)).trans (blkold (heap_alloc_new w _) _))
  have HBJ := Lib.hid (show W.heap[w.heap.size + 1]? = some (.cells #[.int .i64 nm, .int .i64 rn, .int .i64 sg, .int .i64 wh, .bool al, .int .i64 wt, .slice Ar rs.length cr, .slice Av vs.length cv, .slice Ap ps.length cp] 52 (0, 0)) from by rw [← hW]; exact ((((But.refl No _).alloc _).alloc _).block (w.heap.size + 1) (by simp) (fun c => c)).trans (blkb w _ _))
  have HW2 := Lib.hid (show w.heap.size + 4 = W.heap.size from by rw [← hW]; simp)
  have u2 : W.cell? ⟨w.heap.size + 1, 2, none⟩ = some (.int .i64 sg) := blkcell HBJ.out 2 (by simp)
  have u3 : W.cell? ⟨w.heap.size + 1, 3, none⟩ = some (.int .i64 wh) := blkcell HBJ.out 3 (by simp)
  have u5 : W.cell? ⟨w.heap.size + 1, 5, none⟩ = some (.int .i64 wt) := blkcell HBJ.out 5 (by simp)
  go_enter Try.func68, Try.ntmps68
  go_wp2_with (first | (go_at_call 77; with_reducible refine (is17x _ _ ts.length _ _ _ nm true HB1.out _ htl).mono ?_; rintro e w8 ⟨rfl, rfl⟩) | (go_at_call 77; with_reducible refine (is17x _ _ ts.length _ _ _ rn true HB2.out _ htl).mono ?_; rintro e w8 ⟨rfl, rfl⟩) | (go_at_call 78; refine (whenIs0q wh true HB6.out _).mono ?_; rintro e w8 ⟨rfl, rfl⟩))
  clear u2 u3 u5 k0 k1 k2 k3 k4 k5 k6 k7 k8 dd4 dd5 dd7 dd8 cc4 cc5 cc7 cc8
  go_loopg [6] no (fun gk v wr => BxAt W no (fun k => ((js.take k).map (·.one.name)).count nm = 0) gk v wr)
  case atStart => exact ⟨0, rfl, Nat.zero_le _, rfl, by first | exact But.refl _ _ | (rw [hW]; exact But.refl _ _), rfl⟩
  case round =>
    obtain ⟨k, hgk, hk, rfl, hb, hcnt⟩ := hrel
    have HGK := Lib.hid hgk
    have hbw := HW.out.trans hb
    have HBt := Lib.hid hbw
    have HBW := Lib.hid hb
    have HCN := Lib.hid hcnt
    clear hgk hb hbw hcnt hW
    by_cases hlt : k < no
    · have hkj : k < js.length := by omega
      obtain ⟨ad, hA, Ar2, Av2, Ap2, cr2, cv2, cp2, hI2⟩ := HJ.out k hkj
      obtain rfl := Option.some.inj hA
      obtain ⟨q, hq⟩ : ∃ q, js[k].one.name = q := ⟨_, rfl⟩
      have HQ := Lib.hid hq
      have qk := HBt.out.cell_some hI2.c0 (fun c => c)
      rw [hq] at qk
      have hlk : (k : Int) < (no : Int) := by omega
      have dlk : decide ((k : Int) < (no : Int)) = true := decide_eq_true hlk
      have hlkj : (k : Int) < (js.length : Int) := by omega
      have dlkj : decide ((k : Int) < (js.length : Int)) = true := decide_eq_true hlkj
      have hbp_ := (HBW.out.block w.heap.size (by have := HW2.out; omega) (fun c => c)).trans HBP.out
      have hbj_ := (HBW.out.block (w.heap.size + 1) (by have := HW2.out; omega) (fun c => c)).trans HBJ.out
      have p1 : wr.cell? ⟨w.heap.size, 1, none⟩ = some (.slice (some adj) js.length cj) := blkcell hbp_ 1 (by simp)
      have j0 : wr.cell? ⟨w.heap.size + 1, 0, none⟩ = some (.int .i64 nm) := blkcell hbj_ 0 (by simp)
      clear hbp_ hbj_
      clear hI2 hq
      obtain ⟨be, hbe⟩ : ∃ b, (q == nm) = b := ⟨_, rfl⟩
      have HBE := Lib.hid hbe
      go_wp2_with fail
      refine wp_region_held_drew (S := (fun w' => But No wr w')) (by kernel_rfl) ((But.refl No wr).drewN 1) (fun hS => ?_)
      refine takeE 0 (some 56) rfl rfl (fun w e1 => by go_simp <;> (with_reducible rfl)) hS ?_
      simp only [putS]
      refine takeE 1 (some 57) rfl rfl (fun w e1 => by have z_p1 := e1.cell_some p1 (fun c => c); go_simp <;> (with_reducible rfl)) hS ?_
      simp only [putS]
      refine takeE 2 (some 58) rfl rfl (fun w e1 => by go_simp <;> (with_reducible rfl)) hS ?_
      simp only [putS]
      refine takeE 3 (some 59) rfl rfl (fun w e1 => by go_simp <;> (with_reducible rfl)) hS ?_
      simp only [putS]
      refine takeE 4 (some 60) rfl rfl (fun w e1 => by go_simp <;> (with_reducible rfl)) hS ?_
      simp only [putS]
      refine takeE 5 (some 61) rfl rfl (fun w e1 => by have z_qk := e1.cell_some qk (fun c => c); go_simp <;> (with_reducible rfl)) hS ?_
      simp only [putS]
      refine takeE 6 (some 62) rfl rfl (fun w e1 => by go_simp <;> (with_reducible rfl)) hS ?_
      simp only [putS]
      refine takeE 7 (some 63) rfl rfl (fun w e1 => by have z_j0 := e1.cell_some j0 (fun c => c); go_simp <;> (with_reducible rfl)) hS ?_
      simp only [putS]
      refine takeE 8 (some 64) rfl rfl (fun w e1 => by go_simp <;> (with_reducible rfl)) hS ?_
      simp only [putS]
      refine wpAnyH_done (by kernel_rfl) ?_ _
      cases be with
      | true =>
        have E := Lib.hid (H171.out (by
          have hq' : q = nm := eq_of_beq HBE.out
          have hm : nm ∈ seen := by rw [← HSEEN.out, ← hq', ← HQ.out]; exact List.mem_map_of_mem (f := fun x : JobP => x.one.name) (by rw [List.mem_iff_getElem]; exact ⟨k, by rw [List.length_take]; omega, by rw [List.getElem_take]⟩)
          unfold fieldsB; dsimp only; rw [decide_eq_false (fun hc => List.count_eq_zero.1 hc hm)]; simp))
        go_wp2_with fail
        go_ret
        exact ⟨by rw [E.out]; rfl, HBt.out.trans hS⟩
      | false =>
        have E := Lib.hid (show ((js.take (k + 1)).map (·.one.name)).count nm = 0 from by
          rw [List.take_succ_eq_append_getElem hkj, List.map_append, List.count_append, HCN.out, List.map_singleton, HQ.out, List.count_singleton, HBE.out]; rfl)
        go_wp2_with fail
        go_roundg (no - (k + 1))
        case measure => rw [HGK.out]; omega
        case rel => exact ⟨k + 1, rfl, by omega, by go_num, HBW.out.trans hS, E.out⟩
    obtain rfl : k = no := by omega
    have hlk : ¬ (k : Int) < (k : Int) := by omega
    have H172 : Hid (rulesB ts rs = false → R = 172) := Lib.hid (fun h => HR.out.symm.trans (by
      unfold jobC
      rw [if_pos (by unfold fieldsB; dsimp only; rw [← HSEEN.out, HCN.out, HB1.out, HB2.out, HB4.out, HB5.out, HB6.out, HB7.out, HB8.out]; rfl), if_neg (by dsimp only; rw [h]; exact Bool.false_ne_true)]))
    have HRR : Hid (rulesB ts rs = true → R = (if varsB ts vs = true then (if predsB k ps = true then 0 else 174) else 173)) := Lib.hid (fun h => HR.out.symm.trans (by
      unfold jobC
      rw [if_pos (by unfold fieldsB; dsimp only; rw [← HSEEN.out, HCN.out, HB1.out, HB2.out, HB4.out, HB5.out, HB6.out, HB7.out, HB8.out]; rfl), if_pos (by dsimp only; exact h)]))
    have hbp_ := (HBW.out.block w.heap.size (by have := HW2.out; omega) (fun c => c)).trans HBP.out
    have hbj_ := (HBW.out.block (w.heap.size + 1) (by have := HW2.out; omega) (fun c => c)).trans HBJ.out
    have p0 : wr.cell? ⟨w.heap.size, 0, none⟩ = some (.slice At ts.length ct) := blkcell hbp_ 0 (by simp)
    have p1 : wr.cell? ⟨w.heap.size, 1, none⟩ = some (.slice (some adj) js.length cj) := blkcell hbp_ 1 (by simp)
    have j0 : wr.cell? ⟨w.heap.size + 1, 0, none⟩ = some (.int .i64 nm) := blkcell hbj_ 0 (by simp)
    have j1 : wr.cell? ⟨w.heap.size + 1, 1, none⟩ = some (.int .i64 rn) := blkcell hbj_ 1 (by simp)
    have j2 : wr.cell? ⟨w.heap.size + 1, 2, none⟩ = some (.int .i64 sg) := blkcell hbj_ 2 (by simp)
    have j3 : wr.cell? ⟨w.heap.size + 1, 3, none⟩ = some (.int .i64 wh) := blkcell hbj_ 3 (by simp)
    have j4 : wr.cell? ⟨w.heap.size + 1, 4, none⟩ = some (.bool al) := blkcell hbj_ 4 (by simp)
    have j5 : wr.cell? ⟨w.heap.size + 1, 5, none⟩ = some (.int .i64 wt) := blkcell hbj_ 5 (by simp)
    have j6 : wr.cell? ⟨w.heap.size + 1, 6, none⟩ = some (.slice Ar rs.length cr) := blkcell hbj_ 6 (by simp)
    have j7 : wr.cell? ⟨w.heap.size + 1, 7, none⟩ = some (.slice Av vs.length cv) := blkcell hbj_ 7 (by simp)
    have j8 : wr.cell? ⟨w.heap.size + 1, 8, none⟩ = some (.slice Ap ps.length cp) := blkcell hbj_ 8 (by simp)
    clear hbp_ hbj_
    have HRU := Lib.hid (rules17 At (some adj) js.length ct cj ts ⟨⟨nm, rn, sg, wh, wt⟩, al, rs, vs, ps⟩ Ar Av Ap cr cv cp wr (HT.out.but HBt.out) (HI.out.rules.but HBt.out) HS.out htl HF.out.rules HF.out.codes)
    obtain ⟨b1, hb1⟩ : ∃ b, rulesB ts rs = b := ⟨_, rfl⟩
    have HX1 := Lib.hid hb1
    clear hb1
    cases b1 with
    | false =>
      have E := Lib.hid (H172.out HX1.out)
      go_wp2_with (go_at_call 79; refine HRU.out.mono ?_; dsimp only; rw [HX1.out]; rintro e w9 ⟨rfl, hb9⟩; have HB9 := Lib.hid hb9; clear hb9)
      go_ret
      exact ⟨by rw [E.out]; rfl, HBt.out.trans HB9.out⟩
    | true =>
    go_upto_region 11 with (go_at_call 79; refine HRU.out.mono ?_; dsimp only; rw [HX1.out]; rintro e w9 ⟨rfl, hb9⟩; have HB9 := Lib.hid hb9; clear hb9)
    have HB9W := Lib.hid (HBW.out.trans HB9.out)
    have HB9t := Lib.hid (HBt.out.trans HB9.out)
    clear p0 p1 j0 j1 j2 j3 j4 j5 j6 j7 j8
    have hbp_ := (HB9W.out.block w.heap.size (by have := HW2.out; omega) (fun c => c)).trans HBP.out
    have hbj_ := (HB9W.out.block (w.heap.size + 1) (by have := HW2.out; omega) (fun c => c)).trans HBJ.out
    have p0 : w9.cell? ⟨w.heap.size, 0, none⟩ = some (.slice At ts.length ct) := blkcell hbp_ 0 (by simp)
    have p1 : w9.cell? ⟨w.heap.size, 1, none⟩ = some (.slice (some adj) js.length cj) := blkcell hbp_ 1 (by simp)
    have j0 : w9.cell? ⟨w.heap.size + 1, 0, none⟩ = some (.int .i64 nm) := blkcell hbj_ 0 (by simp)
    have j1 : w9.cell? ⟨w.heap.size + 1, 1, none⟩ = some (.int .i64 rn) := blkcell hbj_ 1 (by simp)
    have j2 : w9.cell? ⟨w.heap.size + 1, 2, none⟩ = some (.int .i64 sg) := blkcell hbj_ 2 (by simp)
    have j3 : w9.cell? ⟨w.heap.size + 1, 3, none⟩ = some (.int .i64 wh) := blkcell hbj_ 3 (by simp)
    have j4 : w9.cell? ⟨w.heap.size + 1, 4, none⟩ = some (.bool al) := blkcell hbj_ 4 (by simp)
    have j5 : w9.cell? ⟨w.heap.size + 1, 5, none⟩ = some (.int .i64 wt) := blkcell hbj_ 5 (by simp)
    have j6 : w9.cell? ⟨w.heap.size + 1, 6, none⟩ = some (.slice Ar rs.length cr) := blkcell hbj_ 6 (by simp)
    have j7 : w9.cell? ⟨w.heap.size + 1, 7, none⟩ = some (.slice Av vs.length cv) := blkcell hbj_ 7 (by simp)
    have j8 : w9.cell? ⟨w.heap.size + 1, 8, none⟩ = some (.slice Ap ps.length cp) := blkcell hbj_ 8 (by simp)
    clear hbp_ hbj_
    have HVA := Lib.hid (vars17 At (some adj) js.length ct cj ts ⟨⟨nm, rn, sg, wh, wt⟩, al, rs, vs, ps⟩ Ar Av Ap cr cv cp w9 (HT.out.but HB9t.out) (HI.out.vars.but HB9t.out) HS.out htl HF.out.vars)
    obtain ⟨b2, hb2⟩ : ∃ b, varsB ts vs = b := ⟨_, rfl⟩
    have HX2 := Lib.hid hb2
    clear hb2
    cases b2 with
    | false =>
      have E := Lib.hid (show R = 173 from (HRR.out HX1.out).trans (by rw [HX2.out]; rfl))
      go_wp2_with (go_at_call 80; refine HVA.out.mono ?_; dsimp only; rw [HX2.out]; rintro e w10 ⟨rfl, hb10⟩; have HB10 := Lib.hid hb10; clear hb10)
      go_ret
      exact ⟨by rw [E.out]; rfl, HB9t.out.trans HB10.out⟩
    | true =>
    go_upto_region 13 with (go_at_call 80; refine HVA.out.mono ?_; dsimp only; rw [HX2.out]; rintro e w10 ⟨rfl, hb10⟩; have HB10 := Lib.hid hb10; clear hb10)
    have HXW := Lib.hid (HB9W.out.trans HB10.out)
    have HXt := Lib.hid (HB9t.out.trans HB10.out)
    clear p0 p1 j0 j1 j2 j3 j4 j5 j6 j7 j8
    have H174 : Hid (∀ i, i < ps.length → predB k ps i = false → R = 174) := Lib.hid (fun i hi hb => (HRR.out HX1.out).trans (by
      rw [HX2.out, if_pos rfl, if_neg (fun ha => by have := List.all_eq_true.1 ha i (List.mem_range.2 hi); rw [hb] at this; cases this)]))
    have H0 : Hid (predsB k ps = true → R = 0) := Lib.hid (fun h => (HRR.out HX1.out).trans (by rw [HX2.out, if_pos rfl, if_pos h]))
    have HPS := Lib.hid HI.out.preds
    have hpl := HF.out.preds
    try dsimp only at hpl
    go_wp2_with fail
    go_loopg [7] ps.length (fun gk v wx => BxAt w10 ps.length (fun i => (List.range i).all (predB k ps) = true) gk v wx)
    case atStart => exact ⟨0, rfl, Nat.zero_le _, rfl, But.refl _ _, rfl⟩
    case round =>
      rename World => wx
      obtain ⟨i, hgk, hi, rfl, hb, hall⟩ := hrel
      have HGK := Lib.hid hgk
      have HYt := Lib.hid (HXt.out.trans hb)
      have HYW := Lib.hid (HXW.out.trans hb)
      have HY := Lib.hid hb
      have HA := Lib.hid hall
      clear hgk hb hall
      have hbp_ := (HYW.out.block w.heap.size (by have := HW2.out; omega) (fun c => c)).trans HBP.out
      have hbj_ := (HYW.out.block (w.heap.size + 1) (by have := HW2.out; omega) (fun c => c)).trans HBJ.out
      have j8 : wx.cell? ⟨w.heap.size + 1, 8, none⟩ = some (.slice Ap ps.length cp) := blkcell hbj_ 8 (by simp)
      clear hbp_ hbj_
      by_cases hlt : i < ps.length
      · obtain ⟨ad, hA, k1⟩ := HPS.out i hlt
        cases hA
        try dsimp only at k1
        have k1x := HYt.out.cell_some k1 (fun c => c)
        obtain ⟨p, hp⟩ : ∃ p, ps[i] = p := ⟨_, rfl⟩
        have hpd : ps.getD i 0 = p := by rw [List.getD_eq_getElem?_getD, List.getElem?_eq_getElem hlt, hp]; rfl
        rw [hp] at k1x
        have hilt : (i : Int) < (ps.length : Int) := by omega
        have dlt : decide ((i : Int) < (ps.length : Int)) = true := decide_eq_true hilt
        have HNX := Lib.hid (show predB k ps i = true → (List.range (i + 1)).all (predB k ps) = true from fun hb => by rw [List.range_succ, List.all_append, HA.out]; simpa using hb)
        have HB := Lib.hid (show predB k ps i = (decide (0 ≤ p) && decide (p < (k : Int)) && (i == 0 || decide (ps.getD (i - 1) 0 < p))) from by unfold predB; rw [hpd])
        have HBD := Lib.hid (H174.out i hlt)
        clear hp hpd k1
        by_cases c0 : p < 0
        · have d0 : decide (p < 0) = true := decide_eq_true c0
          have E := Lib.hid (HBD.out (by rw [HB.out, decide_eq_false (by omega)]; rfl))
          go_wp2_with fail
          refine wp_region_held_drew (S := (fun w' => But No wx w')) (by kernel_rfl) ((But.refl No wx).drewN 1) (fun hS => ?_)
          refine takeE 0 (some 80) rfl rfl (fun w e1 => by go_simp <;> (with_reducible rfl)) hS ?_
          simp only [putS]
          refine takeE 1 (some 81) rfl rfl (fun w e1 => by have z_j8 := e1.cell_some j8 (fun c => c); go_simp <;> (with_reducible rfl)) hS ?_
          simp only [putS]
          refine takeE 2 (some 82) rfl rfl (fun w e1 => by go_simp <;> (with_reducible rfl)) hS ?_
          simp only [putS]
          refine takeE 3 (some 83) rfl rfl (fun w e1 => by go_simp <;> (with_reducible rfl)) hS ?_
          simp only [putS]
          refine takeE 4 (some 84) rfl rfl (fun w e1 => by have z_k1x := e1.cell_some k1x (fun c => c); go_simp <;> (with_reducible rfl)) hS ?_
          simp only [putS]
          refine takeE 5 (some 85) rfl rfl (fun w e1 => by go_simp <;> (with_reducible rfl)) hS ?_
          simp only [putS]
          refine takeE 6 (some 86) rfl rfl (fun w e1 => by go_simp <;> (with_reducible rfl)) hS ?_
          simp only [putS]
          refine takeF 7 (some 87) rfl rfl hS ?_
          simp only [putS]
          refine takeF 8 (some 88) rfl rfl hS ?_
          simp only [putS]
          refine takeF 9 (some 89) rfl rfl hS ?_
          simp only [putS]
          refine takeF 10 (some 90) rfl rfl hS ?_
          simp only [putS]
          refine takeF 11 (some 91) rfl rfl hS ?_
          simp only [putS]
          refine takeF 12 (some 92) rfl rfl hS ?_
          simp only [putS]
          refine takeF 13 (some 93) rfl rfl hS ?_
          simp only [putS]
          refine takeE 14 (some 94) rfl rfl (fun w e1 => by go_simp <;> (with_reducible rfl)) hS ?_
          simp only [putS]
          refine takeE 15 (some 95) rfl rfl (fun w e1 => by go_simp <;> (with_reducible rfl)) hS ?_
          simp only [putS]
          refine takeF 16 (some 96) rfl rfl hS ?_
          simp only [putS]
          refine takeF 17 (some 97) rfl rfl hS ?_
          simp only [putS]
          refine takeF 18 (some 98) rfl rfl hS ?_
          simp only [putS]
          refine takeF 19 (some 99) rfl rfl hS ?_
          simp only [putS]
          refine takeF 20 (some 100) rfl rfl hS ?_
          simp only [putS]
          refine takeF 21 (some 101) rfl rfl hS ?_
          simp only [putS]
          refine takeF 22 (some 102) rfl rfl hS ?_
          simp only [putS]
          refine takeF 23 (some 103) rfl rfl hS ?_
          simp only [putS]
          refine takeF 24 (some 104) rfl rfl hS ?_
          simp only [putS]
          refine takeF 25 (some 105) rfl rfl hS ?_
          simp only [putS]
          refine takeF 26 (some 106) rfl rfl hS ?_
          simp only [putS]
          refine takeF 27 (some 107) rfl rfl hS ?_
          simp only [putS]
          refine takeF 28 (some 108) rfl rfl hS ?_
          simp only [putS]
          refine takeF 29 (some 109) rfl rfl hS ?_
          simp only [putS]
          refine takeF 30 (some 110) rfl rfl hS ?_
          simp only [putS]
          refine takeF 31 (some 111) rfl rfl hS ?_
          simp only [putS]
          refine takeE 32 (some 112) rfl rfl (fun w e1 => by go_simp <;> (with_reducible rfl)) hS ?_
          simp only [putS]
          refine wpAnyH_done (by kernel_rfl) ?_ _
          go_wp2_with fail
          go_ret
          exact ⟨by rw [E.out]; rfl, HYt.out.trans hS⟩
        have d0 : decide (p < 0) = false := decide_eq_false c0
        by_cases c1 : (k : Int) ≤ p
        · have d1 : decide ((k : Int) ≤ p) = true := decide_eq_true c1
          have E := Lib.hid (HBD.out (by rw [HB.out, decide_eq_false (show ¬ p < (k : Int) by omega), Bool.and_false]; rfl))
          go_wp2_with fail
          refine wp_region_held_drew (S := (fun w' => But No wx w')) (by kernel_rfl) ((But.refl No wx).drewN 1) (fun hS => ?_)
          refine takeE 0 (some 80) rfl rfl (fun w e1 => by go_simp <;> (with_reducible rfl)) hS ?_
          simp only [putS]
          refine takeE 1 (some 81) rfl rfl (fun w e1 => by have z_j8 := e1.cell_some j8 (fun c => c); go_simp <;> (with_reducible rfl)) hS ?_
          simp only [putS]
          refine takeE 2 (some 82) rfl rfl (fun w e1 => by go_simp <;> (with_reducible rfl)) hS ?_
          simp only [putS]
          refine takeE 3 (some 83) rfl rfl (fun w e1 => by go_simp <;> (with_reducible rfl)) hS ?_
          simp only [putS]
          refine takeE 4 (some 84) rfl rfl (fun w e1 => by have z_k1x := e1.cell_some k1x (fun c => c); go_simp <;> (with_reducible rfl)) hS ?_
          simp only [putS]
          refine takeE 5 (some 85) rfl rfl (fun w e1 => by go_simp <;> (with_reducible rfl)) hS ?_
          simp only [putS]
          refine takeE 6 (some 86) rfl rfl (fun w e1 => by go_simp <;> (with_reducible rfl)) hS ?_
          simp only [putS]
          refine takeE 7 (some 87) rfl rfl (fun w e1 => by go_simp <;> (with_reducible rfl)) hS ?_
          simp only [putS]
          refine takeE 8 (some 88) rfl rfl (fun w e1 => by have z_j8 := e1.cell_some j8 (fun c => c); go_simp <;> (with_reducible rfl)) hS ?_
          simp only [putS]
          refine takeE 9 (some 89) rfl rfl (fun w e1 => by go_simp <;> (with_reducible rfl)) hS ?_
          simp only [putS]
          refine takeE 10 (some 90) rfl rfl (fun w e1 => by go_simp <;> (with_reducible rfl)) hS ?_
          simp only [putS]
          refine takeE 11 (some 91) rfl rfl (fun w e1 => by have z_k1x := e1.cell_some k1x (fun c => c); go_simp <;> (with_reducible rfl)) hS ?_
          simp only [putS]
          refine takeE 12 (some 92) rfl rfl (fun w e1 => by go_simp <;> (with_reducible rfl)) hS ?_
          simp only [putS]
          refine takeE 13 (some 93) rfl rfl (fun w e1 => by go_simp <;> (with_reducible rfl)) hS ?_
          simp only [putS]
          refine takeE 14 (some 94) rfl rfl (fun w e1 => by go_simp <;> (with_reducible rfl)) hS ?_
          simp only [putS]
          refine takeE 15 (some 95) rfl rfl (fun w e1 => by go_simp <;> (with_reducible rfl)) hS ?_
          simp only [putS]
          refine takeF 16 (some 96) rfl rfl hS ?_
          simp only [putS]
          refine takeF 17 (some 97) rfl rfl hS ?_
          simp only [putS]
          refine takeF 18 (some 98) rfl rfl hS ?_
          simp only [putS]
          refine takeF 19 (some 99) rfl rfl hS ?_
          simp only [putS]
          refine takeF 20 (some 100) rfl rfl hS ?_
          simp only [putS]
          refine takeF 21 (some 101) rfl rfl hS ?_
          simp only [putS]
          refine takeF 22 (some 102) rfl rfl hS ?_
          simp only [putS]
          refine takeF 23 (some 103) rfl rfl hS ?_
          simp only [putS]
          refine takeF 24 (some 104) rfl rfl hS ?_
          simp only [putS]
          refine takeF 25 (some 105) rfl rfl hS ?_
          simp only [putS]
          refine takeF 26 (some 106) rfl rfl hS ?_
          simp only [putS]
          refine takeF 27 (some 107) rfl rfl hS ?_
          simp only [putS]
          refine takeF 28 (some 108) rfl rfl hS ?_
          simp only [putS]
          refine takeF 29 (some 109) rfl rfl hS ?_
          simp only [putS]
          refine takeF 30 (some 110) rfl rfl hS ?_
          simp only [putS]
          refine takeF 31 (some 111) rfl rfl hS ?_
          simp only [putS]
          refine takeE 32 (some 112) rfl rfl (fun w e1 => by go_simp <;> (with_reducible rfl)) hS ?_
          simp only [putS]
          refine wpAnyH_done (by kernel_rfl) ?_ _
          go_wp2_with fail
          go_ret
          exact ⟨by rw [E.out]; rfl, HYt.out.trans hS⟩
        have d1 : decide ((k : Int) ≤ p) = false := decide_eq_false c1
        by_cases c2 : i = 0
        · have di : decide ((0 : Int) < (i : Int)) = false := decide_eq_false (by omega)
          have di' : ¬ (0 : Int) < (i : Int) := by omega
          have diN : decide (0 < i) = false := decide_eq_false (by omega)
          have diN' : ¬ 0 < i := by omega
          have E := Lib.hid (HNX.out (by rw [HB.out, decide_eq_true (show 0 ≤ p by omega), decide_eq_true (show p < (k : Int) by omega), c2]; rfl))
          clear c2
          go_wp2_with fail
          refine wp_region_held_drew (S := (fun w' => But No wx w')) (by kernel_rfl) ((But.refl No wx).drewN 1) (fun hS => ?_)
          refine takeE 0 (some 80) rfl rfl (fun w e1 => by go_simp <;> (with_reducible rfl)) hS ?_
          simp only [putS]
          refine takeE 1 (some 81) rfl rfl (fun w e1 => by have z_j8 := e1.cell_some j8 (fun c => c); go_simp <;> (with_reducible rfl)) hS ?_
          simp only [putS]
          refine takeE 2 (some 82) rfl rfl (fun w e1 => by go_simp <;> (with_reducible rfl)) hS ?_
          simp only [putS]
          refine takeE 3 (some 83) rfl rfl (fun w e1 => by go_simp <;> (with_reducible rfl)) hS ?_
          simp only [putS]
          refine takeE 4 (some 84) rfl rfl (fun w e1 => by have z_k1x := e1.cell_some k1x (fun c => c); go_simp <;> (with_reducible rfl)) hS ?_
          simp only [putS]
          refine takeE 5 (some 85) rfl rfl (fun w e1 => by go_simp <;> (with_reducible rfl)) hS ?_
          simp only [putS]
          refine takeE 6 (some 86) rfl rfl (fun w e1 => by go_simp <;> (with_reducible rfl)) hS ?_
          simp only [putS]
          refine takeE 7 (some 87) rfl rfl (fun w e1 => by go_simp <;> (with_reducible rfl)) hS ?_
          simp only [putS]
          refine takeE 8 (some 88) rfl rfl (fun w e1 => by have z_j8 := e1.cell_some j8 (fun c => c); go_simp <;> (with_reducible rfl)) hS ?_
          simp only [putS]
          refine takeE 9 (some 89) rfl rfl (fun w e1 => by go_simp <;> (with_reducible rfl)) hS ?_
          simp only [putS]
          refine takeE 10 (some 90) rfl rfl (fun w e1 => by go_simp <;> (with_reducible rfl)) hS ?_
          simp only [putS]
          refine takeE 11 (some 91) rfl rfl (fun w e1 => by have z_k1x := e1.cell_some k1x (fun c => c); go_simp <;> (with_reducible rfl)) hS ?_
          simp only [putS]
          refine takeE 12 (some 92) rfl rfl (fun w e1 => by go_simp <;> (with_reducible rfl)) hS ?_
          simp only [putS]
          refine takeE 13 (some 93) rfl rfl (fun w e1 => by go_simp <;> (with_reducible rfl)) hS ?_
          simp only [putS]
          refine takeE 14 (some 94) rfl rfl (fun w e1 => by go_simp <;> (with_reducible rfl)) hS ?_
          simp only [putS]
          refine takeE 15 (some 95) rfl rfl (fun w e1 => by go_simp <;> (with_reducible rfl)) hS ?_
          simp only [putS]
          refine takeE 16 (some 96) rfl rfl (fun w e1 => by go_simp <;> (with_reducible rfl)) hS ?_
          simp only [putS]
          refine takeE 17 (some 97) rfl rfl (fun w e1 => by go_simp <;> (with_reducible rfl)) hS ?_
          simp only [putS]
          refine takeE 18 (some 98) rfl rfl (fun w e1 => by go_simp <;> (with_reducible rfl)) hS ?_
          simp only [putS]
          refine takeF 19 (some 99) rfl rfl hS ?_
          simp only [putS]
          refine takeF 20 (some 100) rfl rfl hS ?_
          simp only [putS]
          refine takeF 21 (some 101) rfl rfl hS ?_
          simp only [putS]
          refine takeF 22 (some 102) rfl rfl hS ?_
          simp only [putS]
          refine takeF 23 (some 103) rfl rfl hS ?_
          simp only [putS]
          refine takeF 24 (some 104) rfl rfl hS ?_
          simp only [putS]
          refine takeF 25 (some 105) rfl rfl hS ?_
          simp only [putS]
          refine takeF 26 (some 106) rfl rfl hS ?_
          simp only [putS]
          refine takeF 27 (some 107) rfl rfl hS ?_
          simp only [putS]
          refine takeF 28 (some 108) rfl rfl hS ?_
          simp only [putS]
          refine takeF 29 (some 109) rfl rfl hS ?_
          simp only [putS]
          refine takeF 30 (some 110) rfl rfl hS ?_
          simp only [putS]
          refine takeE 31 (some 111) rfl rfl (fun w e1 => by go_simp <;> (with_reducible rfl)) hS ?_
          simp only [putS]
          refine takeE 32 (some 112) rfl rfl (fun w e1 => by go_simp <;> (with_reducible rfl)) hS ?_
          simp only [putS]
          refine wpAnyH_done (by kernel_rfl) ?_ _
          go_wp2_with fail
          go_roundg (ps.length - (i + 1))
          case measure => rw [HGK.out]; omega
          case rel => exact ⟨i + 1, rfl, by omega, by go_num, HY.out.trans hS, E.out⟩
        obtain ⟨m, rfl⟩ : ∃ m, i = m + 1 := ⟨i - 1, by omega⟩
        obtain ⟨ad2, hA2, k2⟩ := HPS.out m (by omega)
        cases hA2
        try dsimp only at k2
        obtain ⟨q, hq⟩ : ∃ q, ps[m] = q := ⟨_, rfl⟩
        have hqd : ps.getD m 0 = q := by rw [List.getD_eq_getElem?_getD, List.getElem?_eq_getElem (by omega), hq]; rfl
        rw [hq] at k2
        have k4x := HYt.out.cell_some k2 (fun c => c)
        have HB2 := Lib.hid (show predB k ps (m + 1) = decide (q < p) from by rw [HB.out, decide_eq_true (show 0 ≤ p by omega), decide_eq_true (show p < (k : Int) by omega), Nat.add_sub_cancel, hqd]; rfl)
        have d3 : decide ((0 : Int) < ((m + 1 : Nat) : Int)) = true := decide_eq_true (by omega)
        have d3' : decide ((0 : Int) < (m : Int) + 1) = true := decide_eq_true (by omega)
        have hwk : IntKind.i64.wrap (m : Int) = (m : Int) := by rw [IntKind.wrap_i64]; omega
        have hkl : (m : Int) < (ps.length : Int) := by omega
        have h0m : (0 : Int) ≤ (m : Int) + 1 := by omega
        have k1x : wx.cell? ⟨ad.block, ad.off + (m + 1), none⟩ = some (.int .i64 p) := by
          unfold Addr.add at k1x
          rw [if_neg (by omega)] at k1x
          exact k1x
        have hklN : m < ps.length := by omega
        clear hq hqd c2 k2
        by_cases c4 : p ≤ q
        · have d4 : decide (p ≤ q) = true := decide_eq_true c4
          have E := Lib.hid (HBD.out (by rw [HB2.out, decide_eq_false (by omega)]))
          go_wp2_with fail
          refine wp_region_held_drew (S := (fun w' => But No wx w')) (by kernel_rfl) ((But.refl No wx).drewN 1) (fun hS => ?_)
          refine takeE 0 (some 80) rfl rfl (fun w e1 => by go_simp <;> (with_reducible rfl)) hS ?_
          simp only [putS]
          refine takeE 1 (some 81) rfl rfl (fun w e1 => by have z_j8 := e1.cell_some j8 (fun c => c); go_simp <;> (with_reducible rfl)) hS ?_
          simp only [putS]
          refine takeE 2 (some 82) rfl rfl (fun w e1 => by go_simp <;> (with_reducible rfl)) hS ?_
          simp only [putS]
          refine takeE 3 (some 83) rfl rfl (fun w e1 => by go_simp <;> (with_reducible rfl)) hS ?_
          simp only [putS]
          refine takeE 4 (some 84) rfl rfl (fun w e1 => by have z_k1x := e1.cell_some k1x (fun c => c); go_simp <;> (with_reducible rfl)) hS ?_
          simp only [putS]
          refine takeE 5 (some 85) rfl rfl (fun w e1 => by go_simp <;> (with_reducible rfl)) hS ?_
          simp only [putS]
          refine takeE 6 (some 86) rfl rfl (fun w e1 => by go_simp <;> (with_reducible rfl)) hS ?_
          simp only [putS]
          refine takeE 7 (some 87) rfl rfl (fun w e1 => by go_simp <;> (with_reducible rfl)) hS ?_
          simp only [putS]
          refine takeE 8 (some 88) rfl rfl (fun w e1 => by have z_j8 := e1.cell_some j8 (fun c => c); go_simp <;> (with_reducible rfl)) hS ?_
          simp only [putS]
          refine takeE 9 (some 89) rfl rfl (fun w e1 => by go_simp <;> (with_reducible rfl)) hS ?_
          simp only [putS]
          refine takeE 10 (some 90) rfl rfl (fun w e1 => by go_simp <;> (with_reducible rfl)) hS ?_
          simp only [putS]
          refine takeE 11 (some 91) rfl rfl (fun w e1 => by have z_k1x := e1.cell_some k1x (fun c => c); go_simp <;> (with_reducible rfl)) hS ?_
          simp only [putS]
          refine takeE 12 (some 92) rfl rfl (fun w e1 => by go_simp <;> (with_reducible rfl)) hS ?_
          simp only [putS]
          refine takeE 13 (some 93) rfl rfl (fun w e1 => by go_simp <;> (with_reducible rfl)) hS ?_
          simp only [putS]
          refine takeE 14 (some 94) rfl rfl (fun w e1 => by go_simp <;> (with_reducible rfl)) hS ?_
          simp only [putS]
          refine takeE 15 (some 95) rfl rfl (fun w e1 => by go_simp <;> (with_reducible rfl)) hS ?_
          simp only [putS]
          refine takeE 16 (some 96) rfl rfl (fun w e1 => by go_simp <;> (with_reducible rfl)) hS ?_
          simp only [putS]
          refine takeE 17 (some 97) rfl rfl (fun w e1 => by go_simp <;> (with_reducible rfl)) hS ?_
          simp only [putS]
          refine takeE 18 (some 98) rfl rfl (fun w e1 => by go_simp <;> (with_reducible rfl)) hS ?_
          simp only [putS]
          refine takeE 19 (some 99) rfl rfl (fun w e1 => by go_simp <;> (with_reducible rfl)) hS ?_
          simp only [putS]
          refine takeE 20 (some 100) rfl rfl (fun w e1 => by have z_j8 := e1.cell_some j8 (fun c => c); go_simp <;> (with_reducible rfl)) hS ?_
          simp only [putS]
          refine takeE 21 (some 101) rfl rfl (fun w e1 => by go_simp <;> (with_reducible rfl)) hS ?_
          simp only [putS]
          refine takeE 22 (some 102) rfl rfl (fun w e1 => by go_simp <;> (with_reducible rfl)) hS ?_
          simp only [putS]
          refine takeE 23 (some 103) rfl rfl (fun w e1 => by have z_k1x := e1.cell_some k1x (fun c => c); go_simp <;> (with_reducible rfl)) hS ?_
          simp only [putS]
          refine takeE 24 (some 104) rfl rfl (fun w e1 => by go_simp <;> (with_reducible rfl)) hS ?_
          simp only [putS]
          refine takeE 25 (some 105) rfl rfl (fun w e1 => by have z_j8 := e1.cell_some j8 (fun c => c); go_simp <;> (with_reducible rfl)) hS ?_
          simp only [putS]
          refine takeE 26 (some 106) rfl rfl (fun w e1 => by go_simp <;> (with_reducible rfl)) hS ?_
          simp only [putS]
          refine takeE 27 (some 107) rfl rfl (fun w e1 => by go_simp <;> (with_reducible rfl)) hS ?_
          simp only [putS]
          refine takeE 28 (some 108) rfl rfl (fun w e1 => by go_simp <;> (with_reducible rfl)) hS ?_
          simp only [putS]
          refine takeE 29 (some 109) rfl rfl (fun w e1 => by have z_k4x := e1.cell_some k4x (fun c => c); go_simp <;> (with_reducible rfl)) hS ?_
          simp only [putS]
          refine takeE 30 (some 110) rfl rfl (fun w e1 => by go_simp <;> (with_reducible rfl)) hS ?_
          simp only [putS]
          refine takeE 31 (some 111) rfl rfl (fun w e1 => by go_simp <;> (with_reducible rfl)) hS ?_
          simp only [putS]
          refine takeE 32 (some 112) rfl rfl (fun w e1 => by go_simp <;> (with_reducible rfl)) hS ?_
          simp only [putS]
          refine wpAnyH_done (by kernel_rfl) ?_ _
          go_wp2_with fail
          go_ret
          exact ⟨by rw [E.out]; rfl, HYt.out.trans hS⟩
        · have d4 : decide (p ≤ q) = false := decide_eq_false c4
          have E := Lib.hid (HNX.out (by rw [HB2.out, decide_eq_true (by omega)]))
          go_wp2_with fail
          refine wp_region_held_drew (S := (fun w' => But No wx w')) (by kernel_rfl) ((But.refl No wx).drewN 1) (fun hS => ?_)
          refine takeE 0 (some 80) rfl rfl (fun w e1 => by go_simp <;> (with_reducible rfl)) hS ?_
          simp only [putS]
          refine takeE 1 (some 81) rfl rfl (fun w e1 => by have z_j8 := e1.cell_some j8 (fun c => c); go_simp <;> (with_reducible rfl)) hS ?_
          simp only [putS]
          refine takeE 2 (some 82) rfl rfl (fun w e1 => by go_simp <;> (with_reducible rfl)) hS ?_
          simp only [putS]
          refine takeE 3 (some 83) rfl rfl (fun w e1 => by go_simp <;> (with_reducible rfl)) hS ?_
          simp only [putS]
          refine takeE 4 (some 84) rfl rfl (fun w e1 => by have z_k1x := e1.cell_some k1x (fun c => c); go_simp <;> (with_reducible rfl)) hS ?_
          simp only [putS]
          refine takeE 5 (some 85) rfl rfl (fun w e1 => by go_simp <;> (with_reducible rfl)) hS ?_
          simp only [putS]
          refine takeE 6 (some 86) rfl rfl (fun w e1 => by go_simp <;> (with_reducible rfl)) hS ?_
          simp only [putS]
          refine takeE 7 (some 87) rfl rfl (fun w e1 => by go_simp <;> (with_reducible rfl)) hS ?_
          simp only [putS]
          refine takeE 8 (some 88) rfl rfl (fun w e1 => by have z_j8 := e1.cell_some j8 (fun c => c); go_simp <;> (with_reducible rfl)) hS ?_
          simp only [putS]
          refine takeE 9 (some 89) rfl rfl (fun w e1 => by go_simp <;> (with_reducible rfl)) hS ?_
          simp only [putS]
          refine takeE 10 (some 90) rfl rfl (fun w e1 => by go_simp <;> (with_reducible rfl)) hS ?_
          simp only [putS]
          refine takeE 11 (some 91) rfl rfl (fun w e1 => by have z_k1x := e1.cell_some k1x (fun c => c); go_simp <;> (with_reducible rfl)) hS ?_
          simp only [putS]
          refine takeE 12 (some 92) rfl rfl (fun w e1 => by go_simp <;> (with_reducible rfl)) hS ?_
          simp only [putS]
          refine takeE 13 (some 93) rfl rfl (fun w e1 => by go_simp <;> (with_reducible rfl)) hS ?_
          simp only [putS]
          refine takeE 14 (some 94) rfl rfl (fun w e1 => by go_simp <;> (with_reducible rfl)) hS ?_
          simp only [putS]
          refine takeE 15 (some 95) rfl rfl (fun w e1 => by go_simp <;> (with_reducible rfl)) hS ?_
          simp only [putS]
          refine takeE 16 (some 96) rfl rfl (fun w e1 => by go_simp <;> (with_reducible rfl)) hS ?_
          simp only [putS]
          refine takeE 17 (some 97) rfl rfl (fun w e1 => by go_simp <;> (with_reducible rfl)) hS ?_
          simp only [putS]
          refine takeE 18 (some 98) rfl rfl (fun w e1 => by go_simp <;> (with_reducible rfl)) hS ?_
          simp only [putS]
          refine takeE 19 (some 99) rfl rfl (fun w e1 => by go_simp <;> (with_reducible rfl)) hS ?_
          simp only [putS]
          refine takeE 20 (some 100) rfl rfl (fun w e1 => by have z_j8 := e1.cell_some j8 (fun c => c); go_simp <;> (with_reducible rfl)) hS ?_
          simp only [putS]
          refine takeE 21 (some 101) rfl rfl (fun w e1 => by go_simp <;> (with_reducible rfl)) hS ?_
          simp only [putS]
          refine takeE 22 (some 102) rfl rfl (fun w e1 => by go_simp <;> (with_reducible rfl)) hS ?_
          simp only [putS]
          refine takeE 23 (some 103) rfl rfl (fun w e1 => by have z_k1x := e1.cell_some k1x (fun c => c); go_simp <;> (with_reducible rfl)) hS ?_
          simp only [putS]
          refine takeE 24 (some 104) rfl rfl (fun w e1 => by go_simp <;> (with_reducible rfl)) hS ?_
          simp only [putS]
          refine takeE 25 (some 105) rfl rfl (fun w e1 => by have z_j8 := e1.cell_some j8 (fun c => c); go_simp <;> (with_reducible rfl)) hS ?_
          simp only [putS]
          refine takeE 26 (some 106) rfl rfl (fun w e1 => by go_simp <;> (with_reducible rfl)) hS ?_
          simp only [putS]
          refine takeE 27 (some 107) rfl rfl (fun w e1 => by go_simp <;> (with_reducible rfl)) hS ?_
          simp only [putS]
          refine takeE 28 (some 108) rfl rfl (fun w e1 => by go_simp <;> (with_reducible rfl)) hS ?_
          simp only [putS]
          refine takeE 29 (some 109) rfl rfl (fun w e1 => by have z_k4x := e1.cell_some k4x (fun c => c); go_simp <;> (with_reducible rfl)) hS ?_
          simp only [putS]
          refine takeE 30 (some 110) rfl rfl (fun w e1 => by go_simp <;> (with_reducible rfl)) hS ?_
          simp only [putS]
          refine takeE 31 (some 111) rfl rfl (fun w e1 => by go_simp <;> (with_reducible rfl)) hS ?_
          simp only [putS]
          refine takeE 32 (some 112) rfl rfl (fun w e1 => by go_simp <;> (with_reducible rfl)) hS ?_
          simp only [putS]
          refine wpAnyH_done (by kernel_rfl) ?_ _
          go_wp2_with fail
          go_roundg (ps.length - (m + 1 + 1))
          case measure => rw [HGK.out]; omega
          case rel => exact ⟨m + 1 + 1, rfl, by omega, by go_num, HY.out.trans hS, E.out⟩
      · obtain rfl : i = ps.length := by omega
        have hlt' : ¬ (ps.length : Int) < (ps.length : Int) := by omega
        have E := Lib.hid (H0.out HA.out)
        go_wp2_with fail
        go_ret
        exact ⟨by rw [E.out]; rfl, HYt.out⟩
end Go.Proofs.Ytoaopjbgaehpfaa.G
