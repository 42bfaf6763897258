/- plan.size: the walk. -/
import Derived.Test.YtoaopjbgaehpfaaQJh
namespace Go.Proofs.Ytoaopjbgaehpfaa.G
open Go.RowKit
attribute [local simp, local go_sem] alloc_drewN setCell_drewN
set_option linter.unusedVariables false
set_option linter.unusedSimpArgs false
set_option maxRecDepth 100000
set_option maxHeartbeats 8000000 in
theorem size0 (At : Option Addr) (ct : Nat) (ts : List ByteArray) (Aj : Option Addr) (cj : Nat) (js : List JobP) (w : World) (hT : StrsIn w At ts) (hJ : JobsIn w Aj js) (hf : SizeFits ts js) :
    Calls Try.prog 40 #[.agg #[.slice At ts.length ct, .slice Aj js.length cj]] w fun e w' => e = .returned (.int .i64 (sizeP ts js)) ∧ Below w.heap.size w w' := by
  have htl := hf.texts
  have hjl := hf.jobs
  obtain ⟨B0, hB0⟩ : ∃ B, sumL [(ts.length : Int), (js.length : Int)] = B := ⟨_, rfl⟩
  have hb0 := sumL_bound [(ts.length : Int), (js.length : Int)]
  rw [hB0] at hb0
  simp only [List.length_cons, List.length_nil] at hb0
  have HB0 := Lib.hid hB0
  have HI2 := Lib.hid (show ∀ n ∈ [(ts.length : Int), (js.length : Int)], n ≤ 9223372036854775807 ∧ -9223372036854775808 ≤ n from by simp; omega)
  have HT := Lib.hid hT
  have HJ := Lib.hid hJ
  have HF := Lib.hid hf
  clear hT hJ hf hB0
  go_enter Try.func40, Try.ntmps40
  go_wp2_with (first | (go_at_call 54; refine (long0 _ _ [(ts.length : Int), (js.length : Int)] _ (intsIn_new _ [(ts.length : Int), (js.length : Int)] 3 _ (by simp)) (by simp) HI2.out).mono ?_; rw [HB0.out]; rintro e w2 ⟨rfl, rfl⟩))
  generalize hW : World.alloc (World.alloc _ _) _ = W0
  have HW0 := Lib.hid (show But No w W0 from hW ▸ (((But.refl No w).alloc _).alloc _))
  have z0 : W0.cell? ⟨w.heap.size, 1, none⟩ = some (.slice Aj js.length cj) := by rw [← hW]; clear hW HW0; go_simp
  clear hW
  go_loopg [3, 26] ts.length (fun gk v3 vi wr => SumAt W0 (5 + B0) ts.length (ts.map textSz) gk v3 vi wr)
  case atStart => exact ⟨0, rfl, Nat.zero_le _, rfl, But.refl _ _, by simp⟩
  case round =>
    obtain ⟨i, hgk, hi, rfl, hb, rfl⟩ := hrel
    have HGK := Lib.hid hgk
    have HBt := Lib.hid hb
    have z1 := hb.cell_some z0 (fun c => c)
    have hsb := textsSz_bnd HF.out.texts HF.out.sizes i
    obtain ⟨s0, hs0⟩ : ∃ s, ((ts.map textSz).take i).sum = s := ⟨_, rfl⟩
    rw [hs0] at hsb ⊢
    clear hgk hb z0
    by_cases hlt : i < ts.length
    · obtain ⟨ad, hA, k1⟩ := HT.out i hlt
      cases hA
      have hlt' : (i : Int) < (ts.length : Int) := by omega
      have dl : decide ((i : Int) < (ts.length : Int)) = true := decide_eq_true hlt'
      have hts := HF.out.sizes _ (List.getElem_mem hlt)
      have HTK := Lib.hid (sum_take_succ (fs := ts.map textSz) (i := i) (by rw [List.length_map]; exact hlt))
      obtain ⟨x, hx⟩ : ∃ x, ts[i] = x := ⟨_, rfl⟩
      rw [hx] at k1 hts
      have k1' := (HW0.out.trans HBt.out).cell_some k1 (fun c => c)
      obtain ⟨L, hL⟩ : ∃ L, sumL [(x.size : Int)] = L := ⟨_, rfl⟩
      have hLb := sumL_bound [(x.size : Int)]
      rw [hL] at hLb
      simp only [List.length_cons, List.length_nil] at hLb
      have HTK2 := Lib.hid (show ((ts.map textSz).take (i + 1)).sum = s0 + (L + (x.size : Int)) from by rw [HTK.out, hs0, List.getElem_map, hx]; unfold textSz; rw [hL])
      have HL := Lib.hid hL
      have HI1 := Lib.hid (show ∀ n ∈ [(x.size : Int)], n ≤ 9223372036854775807 ∧ -9223372036854775808 ≤ n from by simp; omega)
      clear hx hs0 HTK hL k1
      go_wp2_with (first | (go_at_call 54; refine (long0 _ _ [(x.size : Int)] _ (intsIn_new _ [(x.size : Int)] 3 _ (by simp)) (by simp) HI1.out).mono ?_; rw [HL.out]; rintro e w2 ⟨rfl, rfl⟩))
      go_roundg (ts.length - (i + 1))
      case measure => rw [HGK.out]; omega
      case rel => exact ⟨i + 1, rfl, by omega, by go_num, HBt.out.alloc _, by rw [HTK2.out]; go_num⟩
    · obtain rfl : i = ts.length := by omega
      have hlt' : ¬ (ts.length : Int) < (ts.length : Int) := by omega
      rw [List.take_of_length_le (by rw [List.length_map]; exact Nat.le_refl _)] at hs0
      have HS0 := Lib.hid hs0
      clear hs0
      go_wp2_with fail
      obtain ⟨B1, hB1⟩ : ∃ B, 5 + B0 + s0 = B := ⟨_, rfl⟩
      rw [show 5 + B0 + s0 = B1 from hB1]
      have hb1 : 0 ≤ B1 ∧ B1 ≤ 268697700 := by omega
      have HB1 := Lib.hid hB1
      clear hB1 hsb hb0 z1
      go_loopg [3, 43] js.length (fun gk v3 vi w' => SumAt W0 B1 js.length (js.map jobSz) gk v3 vi w')
      case atStart => exact ⟨0, rfl, Nat.zero_le _, rfl, HBt.out, by simp⟩
      case round =>
        obtain ⟨i, hgk, hi, rfl, hb, rfl⟩ := hrel
        have HGKj := Lib.hid hgk
        have HBj := Lib.hid hb
        have hsb := jobsSz_bnd HF.out.jobs HF.out.each i
        obtain ⟨s1, hs1⟩ : ∃ s, ((js.map jobSz).take i).sum = s := ⟨_, rfl⟩
        rw [hs1] at hsb ⊢
        clear hgk hb
        by_cases hlt : i < js.length
        case neg =>
          obtain rfl : i = js.length := by omega
          have hlt' : ¬ (js.length : Int) < (js.length : Int) := by omega
          rw [List.take_of_length_le (by rw [List.length_map]; exact Nat.le_refl _)] at hs1
          have E := Lib.hid (show sizeP ts js = B1 + s1 from by unfold sizeP; rw [HB0.out, HS0.out, HB1.out, hs1])
          clear hs1
          go_wp2_with fail
          go_ret
          exact ⟨by rw [E.out]; rfl, (HW0.out.trans HBj.out).belowNo⟩
        obtain ⟨ad, hA, Ar, Av, Ap, cr, cv, cp, hJi⟩ := HJ.out i hlt
        cases hA
        have hlt' : (i : Int) < (js.length : Int) := by omega
        have dl : decide ((i : Int) < (js.length : Int)) = true := decide_eq_true hlt'
        have hjs := HF.out.each _ (List.getElem_mem hlt)
        have HTK := Lib.hid (sum_take_succ (fs := js.map jobSz) (i := i) (by rw [List.length_map]; exact hlt))
        obtain ⟨j, hj⟩ : ∃ j, js[i] = j := ⟨_, rfl⟩
        rw [hj] at hJi hjs
        obtain ⟨L1, hL1⟩ : ∃ L, sumL [j.one.name, j.one.run, j.one.stage, j.one.when_, j.one.weight, (j.rules.length : Int), (j.vars.length : Int), (j.preds.length : Int)] = L := ⟨_, rfl⟩
        obtain ⟨L2, hL2⟩ : ∃ L, sumL j.preds = L := ⟨_, rfl⟩
        have hLb1 := sumL_bound [j.one.name, j.one.run, j.one.stage, j.one.when_, j.one.weight, (j.rules.length : Int), (j.vars.length : Int), (j.preds.length : Int)]
        have hLb2 := sumL_bound j.preds
        rw [hL1] at hLb1
        rw [hL2] at hLb2
        simp only [List.length_cons, List.length_nil] at hLb1
        have hp256 := hjs.preds
        have HTK2 := Lib.hid (show ((js.map jobSz).take (i + 1)).sum = s1 + (1 + L1 + L2 + (j.vars.map varSz).sum + (j.rules.map ruleSz).sum) from by rw [HTK.out, hs1, List.getElem_map, hj]; unfold jobSz; rw [hL1, hL2])
        have HI8 := Lib.hid (show ∀ n ∈ [j.one.name, j.one.run, j.one.stage, j.one.when_, j.one.weight, (j.rules.length : Int), (j.vars.length : Int), (j.preds.length : Int)], n ≤ 9223372036854775807 ∧ -9223372036854775808 ≤ n from by
          have h1 := hjs.rules
          have h2 := hjs.vars
          have h3 := hjs.preds
          intro n hn
          simp only [List.mem_cons, List.not_mem_nil, or_false] at hn
          rcases hn with rfl | rfl | rfl | rfl | rfl | rfl | rfl | rfl
          · exact hjs.name
          · exact hjs.run
          · exact hjs.stage
          · exact hjs.when_
          · exact hjs.weight
          · omega
          · omega
          · omega)
        have HL1 := Lib.hid hL1
        have HL2 := Lib.hid hL2
        have HJS := Lib.hid hjs
        have hB := HW0.out.trans HBj.out
        have k0 := hB.cell_some hJi.c0 (fun c => c)
        have k1 := hB.cell_some hJi.c1 (fun c => c)
        have k2 := hB.cell_some hJi.c2 (fun c => c)
        have k3 := hB.cell_some hJi.c3 (fun c => c)
        have k4 := hB.cell_some hJi.c4 (fun c => c)
        have k5 := hB.cell_some hJi.c5 (fun c => c)
        have k6 := hB.cell_some hJi.c6 (fun c => c)
        have k7 := hB.cell_some hJi.c7 (fun c => c)
        have k8 := hB.cell_some hJi.c8 (fun c => c)
        have HJI := Lib.hid hJi
        have HB := Lib.hid hB
        have hw1 : IntKind.i64.wrap (1 + L1) = 1 + L1 := by rw [IntKind.wrap_i64]; omega
        have hw2 : IntKind.i64.wrap (1 + L1 + L2) = 1 + L1 + L2 := by rw [IntKind.wrap_i64]; omega
        have hw3 : IntKind.i64.wrap (B1 + s1 + (1 + L1 + L2)) = B1 + s1 + (1 + L1 + L2) := by rw [IntKind.wrap_i64]; omega
        clear hj hs1 HTK hL1 hL2 hJi hjs hB
        go_wp2_with fail
        refine wp_region_held_drew (S := fun w' => w'.cell? ⟨wr.heap.size, 0, none⟩ = some (.int .i64 j.one.name) ∧ w'.cell? ⟨wr.heap.size, 1, none⟩ = some (.int .i64 j.one.run) ∧ w'.cell? ⟨wr.heap.size, 2, none⟩ = some (.int .i64 j.one.stage) ∧ w'.cell? ⟨wr.heap.size, 3, none⟩ = some (.int .i64 j.one.when_) ∧ w'.cell? ⟨wr.heap.size, 5, none⟩ = some (.int .i64 j.one.weight) ∧ w'.cell? ⟨wr.heap.size, 6, none⟩ = some (.slice Ar j.rules.length cr) ∧ w'.cell? ⟨wr.heap.size, 7, none⟩ = some (.slice Av j.vars.length cv) ∧ w'.cell? ⟨wr.heap.size, 8, none⟩ = some (.slice Ap j.preds.length cp)) (by kernel_rfl) ⟨by go_simp, by go_simp, by go_simp, by go_simp, by go_simp, by go_simp, by go_simp, by go_simp⟩ (fun hS => ?_)
        refine takeD 0 (some 47) rfl rfl (by kernel_rfl) (by kernel_rfl) (by kernel_rfl) (fun _ _ _ h => h) (Or.inl ⟨by kernel_rfl, fun w ⟨e0, e1, e2, e3, e4, e5, e6, e7⟩ => by go_simp <;> (with_reducible rfl)⟩) hS ?_
        simp only [Act.put, List.setIfInBounds_toArray, List.set_cons_zero, List.set_cons_succ]
        refine takeD 1 (some 48) rfl rfl (by kernel_rfl) (by kernel_rfl) (by kernel_rfl) (fun _ _ _ h => h) (Or.inl ⟨by kernel_rfl, fun w ⟨e0, e1, e2, e3, e4, e5, e6, e7⟩ => by go_simp <;> (with_reducible rfl)⟩) hS ?_
        simp only [Act.put, List.setIfInBounds_toArray, List.set_cons_zero, List.set_cons_succ]
        refine takeD 2 (some 49) rfl rfl (by kernel_rfl) (by kernel_rfl) (by kernel_rfl) (fun _ _ _ h => h) (Or.inl ⟨by kernel_rfl, fun w ⟨e0, e1, e2, e3, e4, e5, e6, e7⟩ => by go_simp <;> (with_reducible rfl)⟩) hS ?_
        simp only [Act.put, List.setIfInBounds_toArray, List.set_cons_zero, List.set_cons_succ]
        refine takeD 3 (some 50) rfl rfl (by kernel_rfl) (by kernel_rfl) (by kernel_rfl) (fun _ _ _ h => h) (Or.inl ⟨by kernel_rfl, fun w ⟨e0, e1, e2, e3, e4, e5, e6, e7⟩ => by go_simp <;> (with_reducible rfl)⟩) hS ?_
        simp only [Act.put, List.setIfInBounds_toArray, List.set_cons_zero, List.set_cons_succ]
        refine takeD 4 (some 51) rfl rfl (by kernel_rfl) (by kernel_rfl) (by kernel_rfl) (fun _ _ _ h => h) (Or.inl ⟨by kernel_rfl, fun w ⟨e0, e1, e2, e3, e4, e5, e6, e7⟩ => by go_simp <;> (with_reducible rfl)⟩) hS ?_
        simp only [Act.put, List.setIfInBounds_toArray, List.set_cons_zero, List.set_cons_succ]
        refine takeD 5 (some 52) rfl rfl (by kernel_rfl) (by kernel_rfl) (by kernel_rfl) (fun _ _ _ h => h) (Or.inl ⟨by kernel_rfl, fun w ⟨e0, e1, e2, e3, e4, e5, e6, e7⟩ => by go_simp <;> (with_reducible rfl)⟩) hS ?_
        simp only [Act.put, List.setIfInBounds_toArray, List.set_cons_zero, List.set_cons_succ]
        refine takeD 6 (some 53) rfl rfl (by kernel_rfl) (by kernel_rfl) (by kernel_rfl) (fun _ _ _ h => h) (Or.inl ⟨by kernel_rfl, fun w ⟨e0, e1, e2, e3, e4, e5, e6, e7⟩ => by go_simp <;> (with_reducible rfl)⟩) hS ?_
        simp only [Act.put, List.setIfInBounds_toArray, List.set_cons_zero, List.set_cons_succ]
        refine takeD 7 (some 54) rfl rfl (by kernel_rfl) (by kernel_rfl) (by kernel_rfl) (fun _ _ _ h => h) (Or.inl ⟨by kernel_rfl, fun w ⟨e0, e1, e2, e3, e4, e5, e6, e7⟩ => by go_simp <;> (with_reducible rfl)⟩) hS ?_
        simp only [Act.put, List.setIfInBounds_toArray, List.set_cons_zero, List.set_cons_succ]
        refine takeD 8 (some 55) rfl rfl (by kernel_rfl) (by kernel_rfl) (by kernel_rfl) (fun _ _ _ h => h) (Or.inl ⟨by kernel_rfl, fun w ⟨e0, e1, e2, e3, e4, e5, e6, e7⟩ => by go_simp <;> (with_reducible rfl)⟩) hS ?_
        simp only [Act.put, List.setIfInBounds_toArray, List.set_cons_zero, List.set_cons_succ]
        refine takeD 9 (some 56) rfl rfl (by kernel_rfl) (by kernel_rfl) (by kernel_rfl) (fun _ _ _ h => h) (Or.inl ⟨by kernel_rfl, fun w ⟨e0, e1, e2, e3, e4, e5, e6, e7⟩ => by go_simp <;> (with_reducible rfl)⟩) hS ?_
        simp only [Act.put, List.setIfInBounds_toArray, List.set_cons_zero, List.set_cons_succ]
        refine takeD 10 (some 57) rfl rfl (by kernel_rfl) (by kernel_rfl) (by kernel_rfl) (fun _ _ _ h => h) (Or.inl ⟨by kernel_rfl, fun w ⟨e0, e1, e2, e3, e4, e5, e6, e7⟩ => by go_simp <;> (with_reducible rfl)⟩) hS ?_
        simp only [Act.put, List.setIfInBounds_toArray, List.set_cons_zero, List.set_cons_succ]
        refine takeD 11 (some 58) rfl rfl (by kernel_rfl) (by kernel_rfl) (by kernel_rfl) (fun _ _ _ h => h) (Or.inl ⟨by kernel_rfl, fun w ⟨e0, e1, e2, e3, e4, e5, e6, e7⟩ => by go_simp <;> (with_reducible rfl)⟩) hS ?_
        simp only [Act.put, List.setIfInBounds_toArray, List.set_cons_zero, List.set_cons_succ]
        refine takeD 12 (some 59) rfl rfl (by kernel_rfl) (by kernel_rfl) (by kernel_rfl) (fun _ _ _ h => h) (Or.inl ⟨by kernel_rfl, fun w ⟨e0, e1, e2, e3, e4, e5, e6, e7⟩ => by go_simp <;> (with_reducible rfl)⟩) hS ?_
        simp only [Act.put, List.setIfInBounds_toArray, List.set_cons_zero, List.set_cons_succ]
        refine takeD 13 (some 60) rfl rfl (by kernel_rfl) (by kernel_rfl) (by kernel_rfl) (fun _ _ _ h => h) (Or.inl ⟨by kernel_rfl, fun w ⟨e0, e1, e2, e3, e4, e5, e6, e7⟩ => by go_simp <;> (with_reducible rfl)⟩) hS ?_
        simp only [Act.put, List.setIfInBounds_toArray, List.set_cons_zero, List.set_cons_succ]
        refine takeD 14 (some 61) rfl rfl (by kernel_rfl) (by kernel_rfl) (by kernel_rfl) (fun _ _ _ h => h) (Or.inl ⟨by kernel_rfl, fun w ⟨e0, e1, e2, e3, e4, e5, e6, e7⟩ => by go_simp <;> (with_reducible rfl)⟩) hS ?_
        simp only [Act.put, List.setIfInBounds_toArray, List.set_cons_zero, List.set_cons_succ]
        refine takeD 15 (some 62) rfl rfl (by kernel_rfl) (by kernel_rfl) (by kernel_rfl) (fun _ _ _ h => h) (Or.inl ⟨by kernel_rfl, fun w ⟨e0, e1, e2, e3, e4, e5, e6, e7⟩ => by go_simp <;> (with_reducible rfl)⟩) hS ?_
        simp only [Act.put, List.setIfInBounds_toArray, List.set_cons_zero, List.set_cons_succ]
        refine takeD 16 (some 63) rfl rfl (by kernel_rfl) (by kernel_rfl) (by kernel_rfl) (fun _ _ _ h => h) (Or.inl ⟨by kernel_rfl, fun w ⟨e0, e1, e2, e3, e4, e5, e6, e7⟩ => by go_simp <;> (with_reducible rfl)⟩) hS ?_
        simp only [Act.put, List.setIfInBounds_toArray, List.set_cons_zero, List.set_cons_succ]
        refine takeD 17 (some 64) rfl rfl (by kernel_rfl) (by kernel_rfl) (by kernel_rfl) (fun _ _ _ h => h) (Or.inl ⟨by kernel_rfl, fun w ⟨e0, e1, e2, e3, e4, e5, e6, e7⟩ => by go_simp <;> (with_reducible rfl)⟩) hS ?_
        simp only [Act.put, List.setIfInBounds_toArray, List.set_cons_zero, List.set_cons_succ]
        refine takeD 18 (some 65) rfl rfl (by kernel_rfl) (by kernel_rfl) (by kernel_rfl) (fun _ _ _ h => h) (Or.inl ⟨by kernel_rfl, fun w ⟨e0, e1, e2, e3, e4, e5, e6, e7⟩ => by go_simp <;> (with_reducible rfl)⟩) hS ?_
        simp only [Act.put, List.setIfInBounds_toArray, List.set_cons_zero, List.set_cons_succ]
        refine takeD 19 (some 66) rfl rfl (by kernel_rfl) (by kernel_rfl) (by kernel_rfl) (fun _ _ _ h => h) (Or.inl ⟨by kernel_rfl, fun w ⟨e0, e1, e2, e3, e4, e5, e6, e7⟩ => by go_simp <;> (with_reducible rfl)⟩) hS ?_
        simp only [Act.put, List.setIfInBounds_toArray, List.set_cons_zero, List.set_cons_succ]
        refine takeD 23 (some 70) rfl rfl (by kernel_rfl) (by kernel_rfl) (by kernel_rfl) (fun _ _ _ h => h) (Or.inl ⟨by kernel_rfl, fun w ⟨e0, e1, e2, e3, e4, e5, e6, e7⟩ => by go_simp <;> (with_reducible rfl)⟩) hS ?_
        simp only [Act.put, List.setIfInBounds_toArray, List.set_cons_zero, List.set_cons_succ]
        refine takeD 24 (some 71) rfl rfl (by kernel_rfl) (by kernel_rfl) (by kernel_rfl) (fun _ _ _ h => h) (Or.inl ⟨by kernel_rfl, fun w ⟨e0, e1, e2, e3, e4, e5, e6, e7⟩ => by go_simp <;> (with_reducible rfl)⟩) hS ?_
        simp only [Act.put, List.setIfInBounds_toArray, List.set_cons_zero, List.set_cons_succ]
        refine wpAnyH_ready (rs := [20]) (by kernel_rfl) (by simp) (AllReadyH.cons rfl (fun K hK => ?_) AllReadyH.nil)
        rw [if_pos (by kernel_rfl)]
        go_simp
        refine hK.out _ _ ⟨by go_simp, by go_simp, by go_simp, by go_simp, by go_simp, by go_simp, by go_simp, by go_simp⟩ (fun hS => ?_)
        try simp only [Act.put, List.setIfInBounds_toArray, List.set_cons_zero, List.set_cons_succ, List.getElem_toArray, List.getElem_cons_zero, List.getElem_cons_succ]
        refine wpAnyH_ready (rs := [21]) (by kernel_rfl) (by simp) (AllReadyH.cons rfl (fun K2 hK2 => ?_) AllReadyH.nil)
        rw [if_pos (by kernel_rfl)]
        go_simp
        go_at_call 54
        refine (long0 _ _ [j.one.name, j.one.run, j.one.stage, j.one.when_, j.one.weight, (j.rules.length : Int), (j.vars.length : Int), (j.preds.length : Int)] _ (intsIn_newD _ [j.one.name, j.one.run, j.one.stage, j.one.when_, j.one.weight, (j.rules.length : Int), (j.vars.length : Int), (j.preds.length : Int)] 3 _ (by simp)) (by simp) HI8.out).mono ?_
        rw [HL1.out]
        rintro e w2 ⟨rfl, rfl⟩
        simp only []
        refine hK2.out _ _ hS (fun hS => ?_)
        try simp only [Act.put, List.setIfInBounds_toArray, List.set_cons_zero, List.set_cons_succ, List.getElem_toArray, List.getElem_cons_zero, List.getElem_cons_succ]
        refine takeD 22 (some 69) rfl rfl (by kernel_rfl) (by kernel_rfl) (by kernel_rfl) (fun _ _ _ h => h) (Or.inl ⟨by kernel_rfl, fun w ⟨e0, e1, e2, e3, e4, e5, e6, e7⟩ => by go_simp <;> (with_reducible rfl)⟩) hS ?_
        simp only [Act.put, List.setIfInBounds_toArray, List.set_cons_zero, List.set_cons_succ]
        refine wpAnyH_ready (rs := [25]) (by kernel_rfl) (by simp) (AllReadyH.cons rfl (fun K3 hK3 => ?_) AllReadyH.nil)
        rw [if_pos (by kernel_rfl)]
        go_simp
        go_at_call 54
        refine (long0 Ap cp j.preds _ (HJI.out.preds.but (((HB.out.alloc _).alloc _).drew)) (by omega) HJS.out.froms).mono ?_
        rw [HL2.out]
        rintro e w2 ⟨rfl, rfl⟩
        simp only []
        refine hK3.out _ _ hS (fun hS => ?_)
        try simp only [Act.put, List.setIfInBounds_toArray, List.set_cons_zero, List.set_cons_succ, List.getElem_toArray, List.getElem_cons_zero, List.getElem_cons_succ]
        refine takeD 26 (some 73) rfl rfl (by kernel_rfl) (by kernel_rfl) (by kernel_rfl) (fun _ _ _ h => h) (Or.inl ⟨by kernel_rfl, fun w ⟨e0, e1, e2, e3, e4, e5, e6, e7⟩ => by go_simp <;> (with_reducible rfl)⟩) hS ?_
        simp only [Act.put, List.setIfInBounds_toArray, List.set_cons_zero, List.set_cons_succ]
        refine takeD 27 (some 74) rfl rfl (by kernel_rfl) (by kernel_rfl) (by kernel_rfl) (fun _ _ _ h => h) (Or.inl ⟨by kernel_rfl, fun w ⟨e0, e1, e2, e3, e4, e5, e6, e7⟩ => by go_simp <;> (with_reducible rfl)⟩) hS ?_
        simp only [Act.put, List.setIfInBounds_toArray, List.set_cons_zero, List.set_cons_succ]
        refine takeD 28 (some 3) rfl rfl (by kernel_rfl) (by kernel_rfl) (by kernel_rfl) (fun _ _ _ h => h) (Or.inl ⟨by kernel_rfl, fun w ⟨e0, e1, e2, e3, e4, e5, e6, e7⟩ => by go_simp <;> (with_reducible rfl)⟩) hS ?_
        simp only [Act.put, List.setIfInBounds_toArray, List.set_cons_zero, List.set_cons_succ]
        refine wpAnyH_done (by kernel_rfl) ?_ _
        obtain ⟨e0, e1, e2, e3, e5, e6, e7, e8⟩ := hS
        generalize hW1 : World.drew (World.alloc (World.alloc _ _) _) = W1 at e6 e7 ⊢
        have HW1 := Lib.hid (show But No wr W1 from hW1 ▸ (((But.refl No wr).alloc _).alloc _).drew)
        have HBW := Lib.hid (HB.out.trans HW1.out)
        have HBjW := Lib.hid (HBj.out.trans HW1.out)
        clear hS e0 e1 e2 e3 e5 e8 hW1 k0 k1 k2 k3 k4 k5 k6 k7 k8
        generalize wr.heap.size = g7 at e6 e7 ⊢
        obtain ⟨B2, hB2⟩ : ∃ B, B1 + s1 + (1 + L1 + L2) = B := ⟨_, rfl⟩
        rw [hB2]
        have hb2 : 0 ≤ B2 ∧ B2 ≤ 319999999 := by omega
        have HB2 := Lib.hid hB2
        have hrl := HJS.out.rules
        have hvl := HJS.out.vars
        clear hB2 hsb hw1 hw2 hw3 hLb1 hLb2 hp256 hb1
        go_wp2_with fail
        go_loopg [3, 78] j.vars.length (fun gk v3 vi w' => SumAt W1 B2 j.vars.length (j.vars.map varSz) gk v3 vi w')
        case atStart => exact ⟨0, rfl, Nat.zero_le _, rfl, But.refl _ _, by simp⟩
        case round =>
          obtain ⟨k, hgk, hk, rfl, hb, rfl⟩ := hrel
          have HGKv := Lib.hid hgk
          have HBv := Lib.hid hb
          have y6 := hb.cell_some e6 (fun c => c)
          have hsb := varsSz_bnd hvl k
          obtain ⟨s2, hs2⟩ : ∃ s, ((j.vars.map varSz).take k).sum = s := ⟨_, rfl⟩
          rw [hs2] at hsb ⊢
          clear hgk hb
          by_cases hltv : k < j.vars.length
          · obtain ⟨adv, hAv, n1, n2⟩ := HJI.out.vars k hltv
            cases hAv
            have hltv' : (k : Int) < (j.vars.length : Int) := by omega
            have dlv : decide ((k : Int) < (j.vars.length : Int)) = true := decide_eq_true hltv'
            have hin := HJS.out.names _ (List.getElem_mem hltv)
            have HTV := Lib.hid (sum_take_succ (fs := j.vars.map varSz) (i := k) (by rw [List.length_map]; exact hltv))
            obtain ⟨⟨vn, vl⟩, hv⟩ : ∃ v, j.vars[k] = v := ⟨_, rfl⟩
            rw [hv] at n1 n2 hin
            dsimp only at n1 n2 hin
            have n1' := (HBW.out.trans HBv.out).cell_some n1 (fun c => c)
            have n2' := (HBW.out.trans HBv.out).cell_some n2 (fun c => c)
            obtain ⟨L3, hL3⟩ : ∃ L, sumL [vn, vl] = L := ⟨_, rfl⟩
            have hLb3 := sumL_bound [vn, vl]
            rw [hL3] at hLb3
            simp only [List.length_cons, List.length_nil] at hLb3
            have HTV2 := Lib.hid (show ((j.vars.map varSz).take (k + 1)).sum = s2 + L3 from by rw [HTV.out, hs2, List.getElem_map, hv]; unfold varSz; rw [hL3])
            have HL3 := Lib.hid hL3
            have HIV := Lib.hid (show ∀ n ∈ [vn, vl], n ≤ 9223372036854775807 ∧ -9223372036854775808 ≤ n from by intro n hn; simp only [List.mem_cons, List.not_mem_nil, or_false] at hn; rcases hn with rfl | rfl; exact hin.1; exact hin.2)
            clear hv hs2 HTV hL3 n1 n2 hin e6 e7 y6
            go_wp2_with (first | (go_at_call 54; refine (long0 _ _ [vn, vl] _ (intsIn_new _ [vn, vl] 3 _ (by simp)) (by simp) HIV.out).mono ?_; rw [HL3.out]; rintro e w2 ⟨rfl, rfl⟩))
            go_roundg (j.vars.length - (k + 1))
            case measure => rw [HGKv.out]; omega
            case rel => exact ⟨k + 1, rfl, by omega, by go_num, (HBv.out.alloc _).alloc _, by rw [HTV2.out]; go_num⟩
          obtain rfl : k = j.vars.length := by omega
          have hltv' : ¬ (j.vars.length : Int) < (j.vars.length : Int) := by omega
          rw [List.take_of_length_le (by rw [List.length_map]; exact Nat.le_refl _)] at hs2
          have HS2 := Lib.hid hs2
          clear hs2 hltv e7 e6
          go_wp2_with fail
          obtain ⟨B3, hB3⟩ : ∃ B, B2 + s2 = B := ⟨_, rfl⟩
          rw [hB3]
          have hb3 : 0 ≤ B3 ∧ B3 ≤ 329999999 := by omega
          have HB3 := Lib.hid hB3
          clear hB3 hsb y6 hb2
          go_loopg [3, 94] j.rules.length (fun gk v3 vi w' => SumAt W1 B3 j.rules.length (j.rules.map ruleSz) gk v3 vi w')
          case atStart => exact ⟨0, rfl, Nat.zero_le _, rfl, HBv.out, by simp⟩
          case round =>
            obtain ⟨k, hgk, hk, rfl, hb, rfl⟩ := hrel
            have HGKr := Lib.hid hgk
            have HBr := Lib.hid hb
            have hsb := rulesSz_bnd hrl HJS.out.codes k
            obtain ⟨s3, hs3⟩ : ∃ s, ((j.rules.map ruleSz).take k).sum = s := ⟨_, rfl⟩
            rw [hs3] at hsb ⊢
            clear hgk hb
            by_cases hltr : k < j.rules.length
            case neg =>
              obtain rfl : k = j.rules.length := by omega
              have hltr' : ¬ (j.rules.length : Int) < (j.rules.length : Int) := by omega
              rw [List.take_of_length_le (by rw [List.length_map]; exact Nat.le_refl _)] at hs3
              have E := Lib.hid (show B1 + ((js.map jobSz).take (i + 1)).sum = B3 + s3 from by
                have h1 := HTK2.out
                rw [HS2.out, hs3] at h1
                have h2 := HB3.out
                have h3 := HB2.out
                omega)
              clear hs3
              go_wp2_with fail
              go_roundg (js.length - (i + 1))
              case measure => rw [HGKj.out]; omega
              case rel => exact ⟨i + 1, rfl, by omega, by go_num, HBjW.out.trans HBr.out, by rw [E.out]⟩
            obtain ⟨adr, hAr, Ac, cc, n1, n2, hPc⟩ := HJI.out.rules k hltr
            cases hAr
            have hltr' : (k : Int) < (j.rules.length : Int) := by omega
            have dlr : decide ((k : Int) < (j.rules.length : Int)) = true := decide_eq_true hltr'
            have hin := HJS.out.whens _ (List.getElem_mem hltr)
            have hcl := HJS.out.codes _ (List.getElem_mem hltr)
            have hst := HJS.out.steps _ (List.getElem_mem hltr)
            have HTR := Lib.hid (sum_take_succ (fs := j.rules.map ruleSz) (i := k) (by rw [List.length_map]; exact hltr))
            obtain ⟨⟨code, wh⟩, hv⟩ : ∃ v, j.rules[k] = v := ⟨_, rfl⟩
            rw [hv] at n1 n2 hin hPc hcl hst
            dsimp only at n1 n2 hin hPc hcl hst
            have n1' := (HBW.out.trans HBr.out).cell_some n1 (fun c => c)
            have n2' := (HBW.out.trans HBr.out).cell_some n2 (fun c => c)
            obtain ⟨L4, hL4⟩ : ∃ L, sumL [wh, (code.length : Int)] = L := ⟨_, rfl⟩
            have hLb4 := sumL_bound [wh, (code.length : Int)]
            rw [hL4] at hLb4
            simp only [List.length_cons, List.length_nil] at hLb4
            have HTR2 := Lib.hid (show ((j.rules.map ruleSz).take (k + 1)).sum = s3 + (L4 + (code.length : Int) + (code.map stepSz).sum) from by rw [HTR.out, hs3, List.getElem_map, hv]; unfold ruleSz; dsimp only; rw [hL4])
            have HL4 := Lib.hid hL4
            have HIR := Lib.hid (show ∀ n ∈ [wh, (code.length : Int)], n ≤ 9223372036854775807 ∧ -9223372036854775808 ≤ n from by
              intro n hn
              simp only [List.mem_cons, List.not_mem_nil, or_false] at hn
              rcases hn with rfl | rfl
              · exact hin
              · omega)
            have HPC := Lib.hid hPc
            have HST := Lib.hid hst
            have HBB := Lib.hid (HBW.out.trans HBr.out)
            have hw4 : IntKind.i64.wrap (L4 + (code.length : Int)) = L4 + (code.length : Int) := by rw [IntKind.wrap_i64]; omega
            have hw5 : IntKind.i64.wrap (B3 + s3 + (L4 + (code.length : Int))) = B3 + s3 + (L4 + (code.length : Int)) := by rw [IntKind.wrap_i64]; omega
            clear hv hs3 HTR hL4 n1 n2 hin hPc hst
            go_wp2_with fail
            refine wp_region_held_drew (S := fun w' => w'.cell? ⟨wr.heap.size, 0, none⟩ = some (.slice Ac code.length cc) ∧ w'.cell? ⟨wr.heap.size, 1, none⟩ = some (.int .i64 wh)) (by kernel_rfl) ⟨by go_simp, by go_simp⟩ (fun hS => ?_)
            refine takeD 0 (some 98) rfl rfl (by kernel_rfl) (by kernel_rfl) (by kernel_rfl) (fun _ _ _ h => h) (Or.inl ⟨by kernel_rfl, fun w ⟨e0, e1⟩ => by go_simp <;> (with_reducible rfl)⟩) hS ?_
            simp only [Act.put, List.setIfInBounds_toArray, List.set_cons_zero, List.set_cons_succ]
            refine takeD 1 (some 99) rfl rfl (by kernel_rfl) (by kernel_rfl) (by kernel_rfl) (fun _ _ _ h => h) (Or.inl ⟨by kernel_rfl, fun w ⟨e0, e1⟩ => by go_simp <;> (with_reducible rfl)⟩) hS ?_
            simp only [Act.put, List.setIfInBounds_toArray, List.set_cons_zero, List.set_cons_succ]
            refine takeD 2 (some 100) rfl rfl (by kernel_rfl) (by kernel_rfl) (by kernel_rfl) (fun _ _ _ h => h) (Or.inl ⟨by kernel_rfl, fun w ⟨e0, e1⟩ => by go_simp <;> (with_reducible rfl)⟩) hS ?_
            simp only [Act.put, List.setIfInBounds_toArray, List.set_cons_zero, List.set_cons_succ]
            refine takeD 3 (some 101) rfl rfl (by kernel_rfl) (by kernel_rfl) (by kernel_rfl) (fun _ _ _ h => h) (Or.inl ⟨by kernel_rfl, fun w ⟨e0, e1⟩ => by go_simp <;> (with_reducible rfl)⟩) hS ?_
            simp only [Act.put, List.setIfInBounds_toArray, List.set_cons_zero, List.set_cons_succ]
            refine takeD 4 (some 102) rfl rfl (by kernel_rfl) (by kernel_rfl) (by kernel_rfl) (fun _ _ _ h => h) (Or.inl ⟨by kernel_rfl, fun w ⟨e0, e1⟩ => by go_simp <;> (with_reducible rfl)⟩) hS ?_
            simp only [Act.put, List.setIfInBounds_toArray, List.set_cons_zero, List.set_cons_succ]
            refine takeD 5 (some 103) rfl rfl (by kernel_rfl) (by kernel_rfl) (by kernel_rfl) (fun _ _ _ h => h) (Or.inl ⟨by kernel_rfl, fun w ⟨e0, e1⟩ => by go_simp <;> (with_reducible rfl)⟩) hS ?_
            simp only [Act.put, List.setIfInBounds_toArray, List.set_cons_zero, List.set_cons_succ]
            refine takeD 8 (some 106) rfl rfl (by kernel_rfl) (by kernel_rfl) (by kernel_rfl) (fun _ _ _ h => h) (Or.inl ⟨by kernel_rfl, fun w ⟨e0, e1⟩ => by go_simp <;> (with_reducible rfl)⟩) hS ?_
            simp only [Act.put, List.setIfInBounds_toArray, List.set_cons_zero, List.set_cons_succ]
            refine takeD 9 (some 107) rfl rfl (by kernel_rfl) (by kernel_rfl) (by kernel_rfl) (fun _ _ _ h => h) (Or.inl ⟨by kernel_rfl, fun w ⟨e0, e1⟩ => by go_simp <;> (with_reducible rfl)⟩) hS ?_
            simp only [Act.put, List.setIfInBounds_toArray, List.set_cons_zero, List.set_cons_succ]
            refine takeD 10 (some 108) rfl rfl (by kernel_rfl) (by kernel_rfl) (by kernel_rfl) (fun _ _ _ h => h) (Or.inl ⟨by kernel_rfl, fun w ⟨e0, e1⟩ => by go_simp <;> (with_reducible rfl)⟩) hS ?_
            simp only [Act.put, List.setIfInBounds_toArray, List.set_cons_zero, List.set_cons_succ]
            refine wpAnyH_ready (rs := [6]) (by kernel_rfl) (by simp) (AllReadyH.cons rfl (fun K4 hK4 => ?_) AllReadyH.nil)
            rw [if_pos (by kernel_rfl)]
            go_simp
            refine hK4.out _ _ ⟨by go_simp, by go_simp⟩ (fun hS => ?_)
            try simp only [Act.put, List.setIfInBounds_toArray, List.set_cons_zero, List.set_cons_succ, List.getElem_toArray, List.getElem_cons_zero, List.getElem_cons_succ]
            refine wpAnyH_ready (rs := [7]) (by kernel_rfl) (by simp) (AllReadyH.cons rfl (fun K5 hK5 => ?_) AllReadyH.nil)
            rw [if_pos (by kernel_rfl)]
            go_simp
            go_at_call 54
            refine (long0 _ _ [wh, (code.length : Int)] _ (intsIn_newD _ [wh, (code.length : Int)] 3 _ (by simp)) (by simp) HIR.out).mono ?_
            rw [HL4.out]
            rintro e w2 ⟨rfl, rfl⟩
            simp only []
            refine hK5.out _ _ hS (fun hS => ?_)
            try simp only [Act.put, List.setIfInBounds_toArray, List.set_cons_zero, List.set_cons_succ, List.getElem_toArray, List.getElem_cons_zero, List.getElem_cons_succ]
            refine takeD 11 (some 109) rfl rfl (by kernel_rfl) (by kernel_rfl) (by kernel_rfl) (fun _ _ _ h => h) (Or.inl ⟨by kernel_rfl, fun w ⟨e0, e1⟩ => by go_simp <;> (with_reducible rfl)⟩) hS ?_
            simp only [Act.put, List.setIfInBounds_toArray, List.set_cons_zero, List.set_cons_succ]
            refine takeD 12 (some 110) rfl rfl (by kernel_rfl) (by kernel_rfl) (by kernel_rfl) (fun _ _ _ h => h) (Or.inl ⟨by kernel_rfl, fun w ⟨e0, e1⟩ => by go_simp <;> (with_reducible rfl)⟩) hS ?_
            simp only [Act.put, List.setIfInBounds_toArray, List.set_cons_zero, List.set_cons_succ]
            refine takeD 13 (some 3) rfl rfl (by kernel_rfl) (by kernel_rfl) (by kernel_rfl) (fun _ _ _ h => h) (Or.inl ⟨by kernel_rfl, fun w ⟨e0, e1⟩ => by go_simp <;> (with_reducible rfl)⟩) hS ?_
            simp only [Act.put, List.setIfInBounds_toArray, List.set_cons_zero, List.set_cons_succ]
            refine wpAnyH_done (by kernel_rfl) ?_ _
            obtain ⟨e0, e1⟩ := hS
            generalize hW2 : World.drew (World.alloc (World.alloc _ _) _) = W2 at e0 ⊢
            have HW2 := Lib.hid (show But No wr W2 from hW2 ▸ (((But.refl No wr).alloc _).alloc _).drew)
            have HBW2 := Lib.hid (HBB.out.trans HW2.out)
            have HBr2 := Lib.hid (HBr.out.trans HW2.out)
            clear e1 hW2 n1' n2'
            generalize wr.heap.size = g11 at e0 ⊢
            obtain ⟨B4, hB4⟩ : ∃ B, B3 + s3 + (L4 + (code.length : Int)) = B := ⟨_, rfl⟩
            rw [hB4]
            have hb4 : 0 ≤ B4 ∧ B4 ≤ 339999999 := by omega
            have HB4 := Lib.hid hB4
            clear hB4 hsb hw4 hw5 hLb4 hb3
            go_wp2_with fail
            go_loopg [3, 114] code.length (fun gk v3 vi w' => SumAt W2 B4 code.length (code.map stepSz) gk v3 vi w')
            case atStart => exact ⟨0, rfl, Nat.zero_le _, rfl, But.refl _ _, by simp⟩
            case round =>
              obtain ⟨m, hgk, hm, rfl, hb, rfl⟩ := hrel
              have HGKs := Lib.hid hgk
              have HBs := Lib.hid hb
              have hsb := stepsSz_bnd hcl m
              obtain ⟨s4, hs4⟩ : ∃ s, ((code.map stepSz).take m).sum = s := ⟨_, rfl⟩
              rw [hs4] at hsb ⊢
              clear hgk hb e0
              by_cases hlts : m < code.length
              case neg =>
                obtain rfl : m = code.length := by omega
                have hlts' : ¬ (code.length : Int) < (code.length : Int) := by omega
                rw [List.take_of_length_le (by rw [List.length_map]; exact Nat.le_refl _)] at hs4
                have E := Lib.hid (show B3 + ((j.rules.map ruleSz).take (k + 1)).sum = B4 + s4 from by
                  have h1 := HTR2.out
                  rw [hs4] at h1
                  have h2 := HB4.out
                  omega)
                clear hs4
                go_wp2_with fail
                go_roundg (j.rules.length - (k + 1))
                case measure => rw [HGKr.out]; omega
                case rel => exact ⟨k + 1, rfl, by omega, by go_num, HBr2.out.trans HBs.out, by rw [E.out]⟩
              obtain ⟨adc, hAc, n1, n2⟩ := HPC.out m hlts
              cases hAc
              have hlts' : (m : Int) < (code.length : Int) := by omega
              have dls : decide ((m : Int) < (code.length : Int)) = true := decide_eq_true hlts'
              have hin := HST.out _ (List.getElem_mem hlts)
              have HTS := Lib.hid (sum_take_succ (fs := code.map stepSz) (i := m) (by rw [List.length_map]; exact hlts))
              obtain ⟨⟨xk, xt⟩, hv⟩ : ∃ v, code[m] = v := ⟨_, rfl⟩
              rw [hv] at n1 n2 hin
              dsimp only at n1 n2 hin
              have n1' := (HBW2.out.trans HBs.out).cell_some n1 (fun c => c)
              have n2' := (HBW2.out.trans HBs.out).cell_some n2 (fun c => c)
              have HIS := Lib.hid (show ∀ n ∈ [xt], n ≤ 9223372036854775807 ∧ -9223372036854775808 ≤ n from by intro n hn; simp only [List.mem_cons, List.not_mem_nil, or_false] at hn; rcases hn with rfl; exact hin)
              obtain ⟨b, hbb⟩ : ∃ b, saysB xk = b := ⟨_, rfl⟩
              have HSB := Lib.hid hbb
              clear n1 n2 hin hbb
              cases b with
              | false =>
                have E := Lib.hid (show ((code.map stepSz).take (m + 1)).sum = s4 from by rw [HTS.out, hs4, List.getElem_map, hv]; unfold stepSz; dsimp only; rw [HSB.out]; simp)
                clear hv hs4 HTS
                go_wp2_with (first | (go_at_call 55; refine (says0 xk _).mono ?_; rw [HSB.out]; rintro e w2 ⟨rfl, rfl⟩))
                go_roundg (code.length - (m + 1))
                case measure => rw [HGKs.out]; omega
                case rel => exact ⟨m + 1, rfl, by omega, by go_num, HBs.out.alloc _, by rw [E.out]⟩
              | true =>
                obtain ⟨L5, hL5⟩ : ∃ L, sumL [xt] = L := ⟨_, rfl⟩
                have hLb5 := sumL_bound [xt]
                rw [hL5] at hLb5
                simp only [List.length_cons, List.length_nil] at hLb5
                have HL5 := Lib.hid hL5
                have E := Lib.hid (show ((code.map stepSz).take (m + 1)).sum = s4 + L5 from by rw [HTS.out, hs4, List.getElem_map, hv]; unfold stepSz; dsimp only; rw [HSB.out, hL5]; rfl)
                clear hv hs4 HTS hL5
                go_wp2_with (first | (go_at_call 55; refine (says0 xk _).mono ?_; rw [HSB.out]; rintro e w2 ⟨rfl, rfl⟩) | (go_at_call 54; refine (long0 _ _ [xt] _ (intsIn_new _ [xt] 3 _ (by simp)) (by simp) HIS.out).mono ?_; rw [HL5.out]; rintro e w2 ⟨rfl, rfl⟩))
                go_roundg (code.length - (m + 1))
                case measure => rw [HGKs.out]; omega
                case rel => exact ⟨m + 1, rfl, by omega, by go_num, (HBs.out.alloc _).alloc _, by rw [E.out]; go_num⟩
end Go.Proofs.Ytoaopjbgaehpfaa.G
