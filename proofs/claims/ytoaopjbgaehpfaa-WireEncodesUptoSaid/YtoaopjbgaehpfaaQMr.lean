/- Texts of this claim, joined: words and laws that the others use. -/
import Derived.Test.YtoaopjbgaehpfaaQMp
import Derived.Test.YtoaopjbgaehpfaaQNb
import Derived.Deep.DeepCutAuto
section
/- WireApart: walked. -/
namespace Go.Proofs.Ytoaopjbgaehpfaa.G
open Go.RowKit
attribute [local simp, local go_sem] alloc_drewN setCell_drewN
set_option linter.unusedVariables false
set_option linter.unusedSimpArgs false
set_option maxRecDepth 100000
/-- Encode, either way. -/
def EncPost (w : World) (ts : List ByteArray) (js : List JobP) (e : Ending) (w' : World) : Prop :=
  But No w w' ∧ ((okP ts js = true ∧ ∃ A c, e = .returned (.tuple #[.slice A (planW ts js).length c, .int .i64 0]) ∧ byE.Own w' w.heap.size (.slice A (planW ts js).length c) (planW ts js)) ∨ (okP ts js = false ∧ e = .returned (.tuple #[.slice none 0 0, .int .i64 180])))
theorem enc_any {w : World} {At Aj : Option Addr} {ts : List ByteArray} {js : List JobP} (ct cj : Nat) (h : PlanIn w At ts Aj js) :
    Calls Try.prog 12 #[.agg #[.slice At ts.length ct, .slice Aj js.length cj]] w (EncPost w ts js) := by
  cases hok : okP ts js with
  | true =>
    refine (enc_ok ct cj h hok).mono ?_
    rintro e w' ⟨v, rfl, hv, hb⟩
    obtain ⟨A, c, rfl⟩ := hv.slice
    exact ⟨But.of_below hb, .inl ⟨hok, A, c, rfl, hv⟩⟩
  | false =>
    refine (enc_no ct cj h hok).mono ?_
    rintro e w' ⟨rfl, hb⟩
    exact ⟨But.of_below hb, .inr ⟨hok, rfl⟩⟩
theorem planW_small {ts : List ByteArray} {js : List JobP} (h : okP ts js = true) : (planW ts js).length ≤ 100000000000000 := by
  unfold okP at h
  rw [Bool.and_eq_true, decide_eq_true_eq] at h
  obtain ⟨h1, h2⟩ := parts_texts h.1
  obtain ⟨a, b, _, d⟩ := texts_fit h1
  have hn := nums_all h.1
  have k1 := flat_len (f := textW) (B := 4100) ts (fun s hs => textW_len (d s hs))
  have k2 := flat_len (f := jobW) (B := 140000) js (fun j hj => jobW_len (hn j hj))
  have k3 := bytesL_len [(ts.length : Int)]
  have k4 := bytesL_len [(js.length : Int)]
  simp only [List.length_cons, List.length_nil] at k3 k4
  unfold planW
  simp only [List.length_append, List.length_cons, List.length_nil]
  omega
end Go.Proofs.Ytoaopjbgaehpfaa.G
end
section
/- The reference's wire: a plan in its bytes. -/
namespace Go.Proofs.Ytoaopjbgaehpfaa.G
open Go.RowKit
attribute [local simp, local go_sem] alloc_drewN setCell_drewN
set_option linter.unusedVariables false
set_option linter.unusedSimpArgs false
set_option maxRecDepth 100000
/-- append of a text, inside a region that draws. -/
theorem stepStr {ops : Array Oper} {o : Oper} {a : Act} {W : World} {K : Act → World → Prop} {Q : Exit → Act → World → Prop} {Ex : Prop} (hgd : o.guard = none) (s y : Operand)
    (ho : o.op = .call { callee := .builtin .append, args := #[s, y], argTypes := #[26, 9] })
    (base : Nat) (v : Value) (l : List Int) (hs : a.eval s = v) (hI : byE.Own W base v l) (x : ByteArray) (hy : a.eval y = .string x) (hl : l.length + x.size ≤ 140737488355328) (hb : base ≤ W.heap.size)
    (h : ∀ v' w', byE.Own w' base v' (l ++ byts x) → W.grownBy w' v.ownBlock → K (a.put o.dst v') w') : if Region.wanted o (yielded ops a.tmps) = true then Oper.wp Try.prog o a W K Q else Ex := by
  have hw : Region.wanted o (yielded ops a.tmps) = true := by simp [Region.wanted, hgd]
  rw [if_pos hw]
  obtain ⟨i, h1, h2, h3, h4⟩ := info_get byE.hi
  obtain ⟨v', w', hr, k1, k2, _⟩ := Lib.run_append_own_string (P := Try.prog) W base 26 9 o.type 5 i Try.underlying26 Try.underlying9 h1 h2 h3 h4 v l.length (byE.cells l) hI x (by unfold maxLen; omega) hl hb
  unfold Oper.wp execOp
  simp only [ho, resolve, invoke, builtin, Sem.run_bind, Sem.run_pure, Result.andThen_ok, List.map_toArray, List.map_cons, List.map_nil, hs, hy, hr]
  refine h v' w' ?_ k2
  unfold El.Own
  rw [List.length_append, byts_len, El.cells_append, byts_cells]
  exact k1
/-- Bytes more. -/
theorem wrote_more {base : Nat} {w W w' : World} {l l' : List Int} {v v' : Value} (h : Wrote base w l v W) (hown : byE.Own w' base v' l') (hg : W.grownBy w' v.ownBlock) : Wrote base w l' v' w' :=
  ⟨hown, h.up.grown hg (fun k hk => .inl (h.own.lt k hk).1), h.held.trans (heldS_grow hg (fun k e => by obtain ⟨cs, hc⟩ := typed_own h.own k e; exact ⟨cs, _, hc, by simp⟩))⟩
def TakesOk (ts : List ByteArray) (js : List JobP) (At Aj : Option Addr) (ct cj : Nat) (w : World) : Prop := ∀ W, But No w W → Calls Try.prog 22 #[.agg #[.slice At ts.length ct, .slice Aj js.length cj]] W fun e w' => e = .returned (.bool (okP ts js)) ∧ But No W w'
set_option maxHeartbeats 8000000 in
theorem encode18 {w : World} {At Aj : Option Addr} {ts : List ByteArray} {js : List JobP} (ct cj : Nat) (h : PlanIn w At ts Aj js) (hT : TakesOk ts js At Aj ct cj w) :
    Calls Try.prog 10 #[.agg #[.slice At ts.length ct, .slice Aj js.length cj]] w (EncPost w ts js) := by
  have HT := Lib.hid hT
  have HP := Lib.hid h
  clear h hT
  cases hok : okP ts js with
  | false =>
    rw [show TakesOk ts js At Aj ct cj w = ∀ W, But No w W → Calls Try.prog 22 #[.agg #[.slice At ts.length ct, .slice Aj js.length cj]] W fun e w' => e = .returned (.bool (okP ts js)) ∧ But No W w' from rfl, hok] at HT
    have HOK := Lib.hid hok
    clear hok
    go_enter Try.func10, Try.ntmps10
    go_wp2_with fail
    refine (HT.out _ ((But.refl No w).alloc _)).mono ?_
    rintro e w1 ⟨rfl, hb1⟩
    have HB1 := Lib.hid (((But.refl No w).alloc (.cells #[.slice At ts.length ct, .slice Aj js.length cj] 25)).trans hb1)
    clear hb1
    go_wp2_with fail
    go_ret2
    exact ⟨HB1.out, .inr ⟨HOK.out, rfl⟩⟩
  | true =>
    rw [show TakesOk ts js At Aj ct cj w = ∀ W, But No w W → Calls Try.prog 22 #[.agg #[.slice At ts.length ct, .slice Aj js.length cj]] W fun e w' => e = .returned (.bool (okP ts js)) ∧ But No W w' from rfl, hok] at HT
    have HOK := Lib.hid hok
    have hok2 := hok
    unfold okP at hok2
    rw [Bool.and_eq_true, decide_eq_true_eq] at hok2
    obtain ⟨g1, g2⟩ := parts_texts hok2.1
    obtain ⟨z1, z2, _, z3⟩ := texts_fit g1
    have HZ3 := Lib.hid z3
    have HN := Lib.hid (nums_all hok2.1)
    have HW := Lib.hid (okW_of hok)
    have HPL := Lib.hid (planW_small hok)
    obtain ⟨nt, hnt⟩ : ∃ n, ts.length = n := ⟨_, rfl⟩
    obtain ⟨nj, hnj⟩ : ∃ n, js.length = n := ⟨_, rfl⟩
    have HNT := Lib.hid hnt
    have HNJ := Lib.hid hnj
    rw [hnt, hnj] at HT ⊢
    rw [hnt] at z2
    rw [hnj] at z1
    clear hok hok2 g1 g2 z3 hnt hnj
    go_enter Try.func10, Try.ntmps10
    go_wp2_with fail
    refine (HT.out _ ((But.refl No w).alloc _)).mono ?_
    rintro e w1 ⟨rfl, hb1⟩
    have hB1 := ((But.refl No w).alloc (.cells #[.slice At nt ct, .slice Aj nj cj] 25)).trans hb1
    have hs1 : w.heap.size < w1.heap.size := by have := hb1.size; simp at this; omega
    have hbx := (hb1.block w.heap.size (by simp) (fun c => c)).trans (heap_alloc_new w _)
    have p0 : w1.cell? ⟨w.heap.size, 0, none⟩ = some (.slice At nt ct) := blkcell hbx 0 (by simp)
    have HBX1 := Lib.hid (blkold hbx (.cells #[.int .u8 83, .int .u8 72, .int .u8 85, .int .u8 84, .int .u8 1] 5))
    have H01 := Lib.hid (hB1.alloc (.cells #[.int .u8 83, .int .u8 72, .int .u8 85, .int .u8 84, .int .u8 1] 5))
    have HO1 := Lib.hid (show byE.Own (w1.alloc (.cells #[.int .u8 83, .int .u8 72, .int .u8 85, .int .u8 84, .int .u8 1] 5)) w1.heap.size (.slice (some ⟨w1.heap.size, 0, none⟩) 5 5) headL from ⟨rfl, .inr ⟨w1.heap.size, 5, _, rfl, Nat.le_refl _, heap_alloc_new w1 _, Nat.le_refl _, by unfold maxLen; omega, rfl, rfl⟩⟩)
    have hb0 : w.heap.size ≤ w1.heap.size := hB1.size
    have hb2 : w1.heap.size ≤ (w1.alloc (.cells #[.int .u8 83, .int .u8 72, .int .u8 85, .int .u8 84, .int .u8 1] 5)).heap.size := by simp
    clear hb1 hbx hB1
    go_wp2_with fail
    generalize w1.alloc (.cells #[.int .u8 83, .int .u8 72, .int .u8 85, .int .u8 84, .int .u8 1] 5) = W1 at *
    obtain ⟨base, hbase⟩ : ∃ b, w1.heap.size = b := ⟨_, rfl⟩
    rw [hbase] at HO1 hb0 hb2 hs1 ⊢
    clear hbase p0
    refine (number18 base _ headL (nt : Int) W1 HO1.out ⟨by omega, by omega⟩ (by decide) hb2).mono ?_
    rintro e w2 ⟨v2, rfl, hA⟩
    obtain ⟨LA, hLA⟩ : ∃ L, headL ++ numW (nt : Int) = L := ⟨_, rfl⟩
    have hlA : LA.length ≤ 10 := by rw [← hLA, List.length_append]; have := (numW_len (nt : Int)).2; simp [headL]; omega
    rw [hLA] at hA
    have HA := Lib.hid hA
    have HLA := Lib.hid hLA
    clear hA hLA
    go_wp2_with fail
    go_loopg [4, 5] nt (fun gk v4 v5 wr => R18At W1 base nt (fun i => LA ++ (ts.take i).flatMap textW) gk v4 v5 wr)
    case atStart => exact ⟨0, rfl, Nat.zero_le _, rfl, by simpa using HA.out⟩
    case round =>
      obtain ⟨wo, rfl⟩ : ∃ x, x = wr := ⟨_, rfl⟩
      obtain ⟨i, hgk, hi, rfl, hW⟩ := hrel
      have HGK := Lib.hid hgk
      have HWI0 := Lib.hid hW
      have bx := (hW.held _ _ _ HBX1.out (by decide)).trans HBX1.out
      have p0 : wo.cell? ⟨w.heap.size, 0, none⟩ = some (.slice At nt ct) := blkcell bx 0 (by simp)
      have p1 : wo.cell? ⟨w.heap.size, 1, none⟩ = some (.slice Aj nj cj) := blkcell bx 1 (by simp)
      have BX := Lib.hid bx
      have H0o := Lib.hid (up_no H01.out hb0 hW.up)
      clear hgk hW bx
      by_cases hlt : i < nt
      · have hlt' : (i : Int) < (nt : Int) := by omega
        have dl : decide ((i : Int) < (nt : Int)) = true := decide_eq_true hlt'
        have hit : i < ts.length := by rw [HNT.out]; exact hlt
        obtain ⟨ad, hA, c0⟩ := HP.out.texts i hit
        subst hA
        obtain ⟨x, hx⟩ : ∃ x, ts[i] = x := ⟨_, rfl⟩
        have hxs : x.size ≤ 4096 := hx ▸ HZ3.out _ (List.getElem_mem hit)
        rw [hx] at c0
        have hlt2 : ((ts.take i).flatMap textW).length ≤ 4100 * 65536 := flat_len_take (fun s hs => textW_len (HZ3.out s hs)) (by rw [HNT.out]; exact z2) i
        obtain ⟨LI, hLI⟩ : ∃ L, LA ++ (ts.take i).flatMap textW = L := ⟨_, rfl⟩
        have hlI : LI.length ≤ 1000000000 := by rw [← hLI, List.length_append]; omega
        have hW2 := HWI0.out
        dsimp only at hW2
        rw [hLI] at hW2
        have HWI := Lib.hid hW2
        have hfin : LA ++ (ts.take (i + 1)).flatMap textW = (LI ++ numW (x.size : Int)) ++ byts x := by
          rw [List.take_succ_eq_append_getElem hit, List.flatMap_append, ← List.append_assoc, hLI, hx]
          simp [textW, bytesL]
        have HF := Lib.hid hfin
        clear hx hlt2 hLI hW2 HWI0 hfin
        go_wp2_with fail
        refine wp_region_held_drew (S := fun w' => But No w w' ∧ w'.heap[w.heap.size]? = some (.cells #[.slice (some ad) nt ct, .slice Aj nj cj] 25 (0, 0))) (by kernel_rfl) ⟨H0o.out.drew, drewH BX.out⟩ (fun hS => ?_)
        refine takeE 0 (some 22) rfl rfl (fun w e1 => by obtain ⟨e1, e2⟩ := e1; go_simp <;> (with_reducible rfl)) hS ?_
        simp only [putS]
        refine takeE 1 (some 23) rfl rfl (fun w e1 => by obtain ⟨e1, e2⟩ := e1; go_simp <;> (with_reducible rfl)) hS ?_
        simp only [putS]
        refine takeE 2 (some 24) rfl rfl (fun w e1 => by obtain ⟨e1, e2⟩ := e1; have z0 := blkcell e2 0 (by simp); simp only [List.getElem_toArray, List.getElem_cons_zero, List.getElem_cons_succ] at z0; go_simp <;> (with_reducible rfl)) hS ?_
        simp only [putS]
        refine takeE 3 (some 25) rfl rfl (fun w e1 => by obtain ⟨e1, e2⟩ := e1; go_simp <;> (with_reducible rfl)) hS ?_
        simp only [putS]
        refine takeE 4 (some 26) rfl rfl (fun w e1 => by obtain ⟨e1, e2⟩ := e1; go_simp <;> (with_reducible rfl)) hS ?_
        simp only [putS]
        refine takeE 5 (some 27) rfl rfl (fun w e1 => by obtain ⟨e1, e2⟩ := e1; have z := e1.cell_some c0 (fun c => c); go_simp <;> (with_reducible rfl)) hS ?_
        simp only [putS]
        refine takeE 6 (some 28) rfl rfl (fun w e1 => by obtain ⟨e1, e2⟩ := e1; go_simp <;> (with_reducible rfl)) hS ?_
        simp only [putS]
        refine takeE 8 (some 30) rfl rfl (fun w e1 => by obtain ⟨e1, e2⟩ := e1; go_simp <;> (with_reducible rfl)) hS ?_
        simp only [putS]
        refine takeE 9 (some 31) rfl rfl (fun w e1 => by obtain ⟨e1, e2⟩ := e1; have z0 := blkcell e2 0 (by simp); simp only [List.getElem_toArray, List.getElem_cons_zero, List.getElem_cons_succ] at z0; go_simp <;> (with_reducible rfl)) hS ?_
        simp only [putS]
        refine takeE 10 (some 32) rfl rfl (fun w e1 => by obtain ⟨e1, e2⟩ := e1; go_simp <;> (with_reducible rfl)) hS ?_
        simp only [putS]
        refine takeE 11 (some 33) rfl rfl (fun w e1 => by obtain ⟨e1, e2⟩ := e1; go_simp <;> (with_reducible rfl)) hS ?_
        simp only [putS]
        refine takeE 12 (some 34) rfl rfl (fun w e1 => by obtain ⟨e1, e2⟩ := e1; have z := e1.cell_some c0 (fun c => c); go_simp <;> (with_reducible rfl)) hS ?_
        simp only [putS]
        refine wpAnyH_ready (rs := [7]) (by kernel_rfl) (by simp) (AllReadyH.cons rfl (fun K7 hK7 => ?_) AllReadyH.nil)
        rw [if_pos (by kernel_rfl)]
        go_simp
        go_at_call 23
        refine (number18 base _ LI (x.size : Int) _ (HWI.out.drew).own ⟨by omega, by omega⟩ (by omega) (Nat.le_trans hb2 (HWI.out.drew).up.size)).mono ?_
        rintro e we ⟨ve, rfl, hA⟩
        have HE1 := Lib.hid ((HWI.out.drew).trans hA)
        clear hA
        simp only []
        refine hK7.out _ _ ⟨up_no H01.out hb0 HE1.out.up, (HE1.out.held _ _ _ HBX1.out (by decide)).trans HBX1.out⟩ (fun hS => ?_)
        try simp only [putS, List.getElem_toArray, List.getElem_cons_zero, List.getElem_cons_succ]
        refine wpAnyH_ready (rs := [13]) (by kernel_rfl) (by simp) (AllReadyH.cons rfl (fun K13 hK13 => ?_) AllReadyH.nil)
        refine stepStr rfl _ _ rfl base ve (LI ++ numW (x.size : Int)) rfl HE1.out.own x rfl (by rw [List.length_append]; have := (numW_len (x.size : Int)).2; omega) (Nat.le_trans hb2 HE1.out.up.size) ?_
        intro vf wf hown hgrow
        have HE2 := Lib.hid (wrote_more HE1.out hown hgrow)
        clear hown hgrow
        refine hK13.out _ _ ⟨up_no H01.out hb0 HE2.out.up, (HE2.out.held _ _ _ HBX1.out (by decide)).trans HBX1.out⟩ (fun hS => ?_)
        try simp only [putS, List.getElem_toArray, List.getElem_cons_zero, List.getElem_cons_succ]
        refine takeE 14 (some 4) rfl rfl (fun w e1 => by obtain ⟨e1, e2⟩ := e1; go_simp <;> (with_reducible rfl)) hS ?_
        simp only [putS]
        refine wpAnyH_done (by kernel_rfl) ?_ _
        clear hS
        go_wp2_with fail
        go_roundg (nt - (i + 1))
        case measure => rw [HGK.out]; omega
        case rel => exact ⟨i + 1, rfl, by omega, by go_num, by show Wrote base W1 (LA ++ (ts.take (i + 1)).flatMap textW) _ _; rw [HF.out]; exact HE2.out⟩
      · have hie : i = nt := by omega
        have hlt' : ¬ (i : Int) < (nt : Int) := by omega
        have dl : decide ((i : Int) < (nt : Int)) = false := decide_eq_false hlt'
        obtain ⟨LT, hLT⟩ : ∃ L, LA ++ ts.flatMap textW = L := ⟨_, rfl⟩
        have hlT : LT.length ≤ 1000000000 := by
          have := flat_len (f := textW) (B := 4100) ts (fun s hs => textW_len (HZ3.out s hs))
          have h2 := HNT.out
          rw [← hLT, List.length_append]
          omega
        have hW2 := HWI0.out
        dsimp only at hW2
        rw [hie, ← HNT.out, List.take_length, hLT] at hW2
        have HWT := Lib.hid hW2
        have HLT := Lib.hid hLT
        clear hie hLT hW2 HWI0
        go_wp2_with fail
        refine (number18 base _ LT (nj : Int) wo HWT.out.own ⟨by omega, by omega⟩ (by omega) (Nat.le_trans hb2 HWT.out.up.size)).mono ?_
        rintro e wj ⟨vj0, rfl, hA⟩
        obtain ⟨LJ, hLJ⟩ : ∃ L, LT ++ numW (nj : Int) = L := ⟨_, rfl⟩
        have hlJ : LJ.length ≤ 1000000010 := by rw [← hLJ, List.length_append]; have := (numW_len (nj : Int)).2; omega
        rw [hLJ] at hA
        have HWJ := Lib.hid (HWT.out.trans hA)
        have HLJ := Lib.hid hLJ
        clear hA hLJ p0 p1 HWT
        go_wp2_with fail
        go_loopg [4, 6] nj (fun gk v4 v6 wr => R18At W1 base nj (fun i => LJ ++ (js.take i).flatMap jobW) gk v4 v6 wr)
        case atStart => exact ⟨0, rfl, Nat.zero_le _, rfl, by simpa using HWJ.out⟩
        case round =>
          obtain ⟨k, hgk, hk, rfl, hW⟩ := hrel
          have HGKJ := Lib.hid hgk
          have HW0 := Lib.hid hW
          have bx := (hW.held _ _ _ HBX1.out (by decide)).trans HBX1.out
          have p1 : wr.cell? ⟨w.heap.size, 1, none⟩ = some (.slice Aj nj cj) := blkcell bx 1 (by simp)
          have H0r := Lib.hid (up_no H01.out hb0 hW.up)
          clear hgk hW bx
          by_cases hkt : k < nj
          · have hkt' : (k : Int) < (nj : Int) := by omega
            have dk : decide ((k : Int) < (nj : Int)) = true := decide_eq_true hkt'
            have hkj : k < js.length := by rw [HNJ.out]; exact hkt
            obtain ⟨ad, hA, Ar, Av, Ap, cr, cv, cp, hJ⟩ := HP.out.jobs k hkj
            subst hA
            obtain ⟨j, hj⟩ : ∃ j, js[k] = j := ⟨_, rfl⟩
            have hjm : j ∈ js := hj ▸ List.getElem_mem hkj
            rw [hj] at hJ
            have HJ := Lib.hid hJ
            have c0 := H0r.out.cell_some hJ.c0 (fun c => c)
            have c1 := H0r.out.cell_some hJ.c1 (fun c => c)
            have c2 := H0r.out.cell_some hJ.c2 (fun c => c)
            have c3 := H0r.out.cell_some hJ.c3 (fun c => c)
            have c4 := H0r.out.cell_some hJ.c4 (fun c => c)
            have c5 := H0r.out.cell_some hJ.c5 (fun c => c)
            have c6 := H0r.out.cell_some hJ.c6 (fun c => c)
            have c7 := H0r.out.cell_some hJ.c7 (fun c => c)
            have c8 := H0r.out.cell_some hJ.c8 (fun c => c)
            have HJM := Lib.hid hjm
            have hlk : ((js.take k).flatMap jobW).length ≤ 140000 * 256 := flat_len_take (fun j hj => jobW_len (HN.out j hj)) (by rw [HNJ.out]; exact z1) k
            obtain ⟨LK, hLK⟩ : ∃ L, LJ ++ (js.take k).flatMap jobW = L := ⟨_, rfl⟩
            have hlK : LK.length ≤ 1100000000 := by rw [← hLK, List.length_append]; omega
            have hW2 := HW0.out
            dsimp only at hW2
            rw [hLK] at hW2
            have HWK := Lib.hid hW2
            have hfin : LJ ++ (js.take (k + 1)).flatMap jobW = LK ++ jobW j := by
              rw [List.take_succ_eq_append_getElem hkj, List.flatMap_append, ← List.append_assoc, hLK, hj]
              simp
            have HF := Lib.hid hfin
            clear hJ hj hjm hlk hLK hW2 HW0 hfin hkj
            go_wp2_with fail
            refine (job18 H0r.out hb0 HWK.out.own (Nat.le_trans hb2 HWK.out.up.size) (by omega) j Ar Av Ap cr cv cp HJ.out.rules HJ.out.vars HJ.out.preds (HN.out j HJM.out) (HW.out.2.2 j HJM.out)).mono ?_
            rintro e wq ⟨vq, rfl, hA⟩
            have HY := Lib.hid (HWK.out.trans hA)
            clear hA c0 c1 c2 c3 c4 c5 c6 c7 c8
            go_wp2_with fail
            go_roundg (nj - (k + 1))
            case measure => rw [HGKJ.out]; omega
            case rel => exact ⟨k + 1, rfl, by omega, by go_num, by show Wrote base W1 (LJ ++ (js.take (k + 1)).flatMap jobW) _ _; rw [HF.out]; exact HY.out⟩
          · have hke : k = nj := by omega
            have hkt' : ¬ (k : Int) < (nj : Int) := by omega
            have dk : decide ((k : Int) < (nj : Int)) = false := decide_eq_false hkt'
            have hW2 := HW0.out
            dsimp only at hW2
            have hall : LJ ++ js.flatMap jobW = planW ts js := by
              rw [← HLJ.out, ← HLT.out, ← HLA.out, ← HNJ.out, ← HNT.out]
              simp [planW, bytesL, headL]
            rw [hke, ← HNJ.out, List.take_length, hall] at hW2
            have HFW := Lib.hid hW2
            have H0F := Lib.hid (up_no H01.out hb0 hW2.up)
            clear hke hall hW2 HW0
            go_wp2_with fail
            go_ret2
            obtain ⟨AF, cF, hv⟩ := HFW.out.own.slice
            have ho := HFW.out.own
            rw [hv] at ho ⊢
            exact ⟨H0F.out, .inl ⟨HOK.out, AF, cF, rfl, own_mono ho hb0⟩⟩
end Go.Proofs.Ytoaopjbgaehpfaa.G
end
section
/- The reference's plan: small tests. -/
namespace Go.Proofs.Ytoaopjbgaehpfaa.G
open Go.RowKit
attribute [local simp, local go_sem] alloc_drewN setCell_drewN
set_option linter.unusedVariables false
set_option linter.unusedSimpArgs false
set_option maxRecDepth 100000
theorem whenIs0 (n : Int) (w : World) : Calls Try.prog 78 #[.int .i64 n] w fun e w' => e = .returned (.bool (whenB n)) ∧ w' = w := by
  by_cases h0 : 0 ≤ n
  · have d0 : decide (0 ≤ n) = true := decide_eq_true h0
    have E := Lib.hid (show whenB n = decide (n ≤ 3) from by unfold whenB; rw [d0]; rfl)
    go_enter Try.func78, Try.ntmps78
    go_wp2_with fail
    go_ret
    exact ⟨by rw [E.out]; rfl, rfl⟩
  · have d0 : decide (0 ≤ n) = false := decide_eq_false h0
    have E := Lib.hid (show whenB n = false from by unfold whenB; rw [d0]; rfl)
    go_enter Try.func78, Try.ntmps78
    go_wp2_with fail
    go_ret
    exact ⟨by rw [E.out]; rfl, rfl⟩
theorem wordByte0 (c : Int) (h0 : 0 ≤ c) (h9 : c ≤ 255) (w : World) : Calls Try.prog 93 #[.int .u8 c] w fun e w' => e = .returned (.bool (letterB c)) ∧ w' = w := by
  go_enter Try.func93, Try.ntmps93
  go_wp2_with fail
  all_goals go_ret
  all_goals refine ⟨congrArg Ending.returned (congrArg Value.bool ?_), rfl⟩
  all_goals (rw [Bool.eq_iff_iff]; simp [letterB]; omega)
set_option maxHeartbeats 4000000 in
theorem varNameR0 (s : ByteArray) (w : World) (hs : s.size ≤ 9223372036854775807) : Calls Try.prog 86 #[.string s] w fun e w' => e = .returned (.bool (varNameB s)) ∧ w' = w := by
  have hs2 : s.size ≤ 9223372036854775807 := by omega
  by_cases h0 : s.size < 1
  · have E := Lib.hid (show varNameB s = false from by unfold varNameB; rw [madeOk_no (.inl (by omega))]; rfl)
    have d0 : decide ((s.size : Int) < 1) = true := decide_eq_true (by omega)
    have d0' : (s.size : Int) < 1 := by omega
    go_enter Try.func86, Try.ntmps86
    go_wp2_with fail
    go_ret
    exact ⟨by rw [E.out]; rfl, rfl⟩
  have d0 : decide ((s.size : Int) < 1) = false := decide_eq_false (by omega)
  have d0' : ¬ (s.size : Int) < 1 := by omega
  by_cases h1 : 64 < s.size
  · have E := Lib.hid (show varNameB s = false from by unfold varNameB; rw [madeOk_no (.inr (.inl h1))]; rfl)
    have d1 : decide ((64 : Int) < (s.size : Int)) = true := decide_eq_true (by omega)
    have d1' : (64 : Int) < (s.size : Int) := by omega
    go_enter Try.func86, Try.ntmps86
    go_wp2_with fail
    go_ret
    exact ⟨by rw [E.out]; rfl, rfl⟩
  have d1 : decide ((64 : Int) < (s.size : Int)) = false := decide_eq_false (by omega)
  have d1' : ¬ (64 : Int) < (s.size : Int) := by omega
  have hpos : 0 < s.size := by omega
  have hbt0 := bt_at s 0 hpos
  by_cases h2 : 48 ≤ bt s 0 ∧ bt s 0 ≤ 57
  · have E := Lib.hid (show varNameB s = false from by
      unfold varNameB
      rw [decide_eq_false (show ¬ bt s 0 < 48 by omega), decide_eq_false (show ¬ 57 < bt s 0 by omega)]
      simp)
    have d2 : decide (48 ≤ bt s 0) = true := decide_eq_true h2.1
    have d3 : decide (bt s 0 ≤ 57) = true := decide_eq_true h2.2
    obtain ⟨d2', d3'⟩ := h2
    go_enter Try.func86, Try.ntmps86
    go_wp2_with fail
    go_ret
    exact ⟨by rw [E.out]; rfl, rfl⟩
  have HE := Lib.hid (show varNameB s = madeOk s from by
    unfold varNameB
    have : (decide (bt s 0 < 48) || decide (57 < bt s 0)) = true := by simp; omega
    rw [this, Bool.and_true])
  have hcase : (∃ (_ : decide (48 ≤ bt s 0) = false), ¬ 48 ≤ bt s 0) ∨ (∃ (_ : decide (48 ≤ bt s 0) = true) (_ : 48 ≤ bt s 0) (_ : decide (bt s 0 ≤ 57) = false), ¬ bt s 0 ≤ 57) := by
    by_cases c : 48 ≤ bt s 0
    · exact .inr ⟨decide_eq_true c, c, decide_eq_false (by omega), by omega⟩
    · exact .inl ⟨decide_eq_false c, c⟩
  clear h2
  rcases hcase with ⟨d2, d2'⟩ | ⟨d2, d2', d3, d3'⟩
  · go_enter Try.func86, Try.ntmps86
    go_wp2_with fail
    go_loopg [3] s.size (fun g v3 wr => ∃ k : Nat, g = s.size - k ∧ k ≤ s.size ∧ v3 = .int .i64 (k : Int) ∧ w = wr ∧ letters s k = true)
    case atStart => exact ⟨0, rfl, Nat.zero_le _, rfl, rfl, letters_zero s⟩
    case round =>
      obtain ⟨k, hg, hk, rfl, rfl, hl⟩ := hrel
      have HG := Lib.hid hg
      have HL := Lib.hid hl
      clear hg hl
      by_cases hlt : k < s.size
      · have hbt := bt_at s k hlt
        have hr := bt_range s k
        obtain ⟨b, hb⟩ : ∃ b, letterB (bt s k) = b := ⟨_, rfl⟩
        have hlet := wordByte0 (bt s k) hr.1 hr.2 w
        rw [hb] at hlet
        have HLet := Lib.hid hlet
        have hlt' : (k : Int) < (s.size : Int) := by omega
        have dk : decide ((k : Int) < (s.size : Int)) = true := decide_eq_true hlt'
        clear hlet hbt0 d2 d2'
        cases b with
        | false =>
          have E := Lib.hid (show varNameB s = false from HE.out.trans (madeOk_no (.inr (.inr (letters_no hlt hb)))))
          clear hb
          go_wp2_with (go_at_call 93; refine HLet.out.mono ?_; rintro e w1 ⟨rfl, rfl⟩)
          go_ret
          exact ⟨by rw [E.out]; rfl, rfl⟩
        | true =>
          have E := Lib.hid (show letters s (k + 1) = true from by rw [letters_succ, HL.out, hb]; rfl)
          clear hb
          go_wp2_with (go_at_call 93; refine HLet.out.mono ?_; rintro e w1 ⟨rfl, rfl⟩)
          go_roundg (s.size - (k + 1))
          case measure => have := HG.out; omega
          case rel => exact ⟨k + 1, rfl, by omega, by go_num, rfl, E.out⟩
      · have E := Lib.hid (show varNameB s = true from HE.out.trans (by
          unfold madeOk
          have hkk : k = s.size := by omega
          rw [← hkk, HL.out]
          simp
          omega))
        have hlt' : ¬ (k : Int) < (s.size : Int) := by omega
        have dk : decide ((k : Int) < (s.size : Int)) = false := decide_eq_false hlt'
        clear hbt0 d2 d2'
        go_wp2_with fail
        go_ret
        exact ⟨by rw [E.out]; rfl, rfl⟩
  · go_enter Try.func86, Try.ntmps86
    go_wp2_with fail
    go_loopg [3] s.size (fun g v3 wr => ∃ k : Nat, g = s.size - k ∧ k ≤ s.size ∧ v3 = .int .i64 (k : Int) ∧ w = wr ∧ letters s k = true)
    case atStart => exact ⟨0, rfl, Nat.zero_le _, rfl, rfl, letters_zero s⟩
    case round =>
      obtain ⟨k, hg, hk, rfl, rfl, hl⟩ := hrel
      have HG := Lib.hid hg
      have HL := Lib.hid hl
      clear hg hl
      by_cases hlt : k < s.size
      · have hbt := bt_at s k hlt
        have hr := bt_range s k
        obtain ⟨b, hb⟩ : ∃ b, letterB (bt s k) = b := ⟨_, rfl⟩
        have hlet := wordByte0 (bt s k) hr.1 hr.2 w
        rw [hb] at hlet
        have HLet := Lib.hid hlet
        have hlt' : (k : Int) < (s.size : Int) := by omega
        have dk : decide ((k : Int) < (s.size : Int)) = true := decide_eq_true hlt'
        clear hlet hbt0 d2 d2'
        cases b with
        | false =>
          have E := Lib.hid (show varNameB s = false from HE.out.trans (madeOk_no (.inr (.inr (letters_no hlt hb)))))
          clear hb
          go_wp2_with (go_at_call 93; refine HLet.out.mono ?_; rintro e w1 ⟨rfl, rfl⟩)
          go_ret
          exact ⟨by rw [E.out]; rfl, rfl⟩
        | true =>
          have E := Lib.hid (show letters s (k + 1) = true from by rw [letters_succ, HL.out, hb]; rfl)
          clear hb
          go_wp2_with (go_at_call 93; refine HLet.out.mono ?_; rintro e w1 ⟨rfl, rfl⟩)
          go_roundg (s.size - (k + 1))
          case measure => have := HG.out; omega
          case rel => exact ⟨k + 1, rfl, by omega, by go_num, rfl, E.out⟩
      · have E := Lib.hid (show varNameB s = true from HE.out.trans (by
          unfold madeOk
          have hkk : k = s.size := by omega
          rw [← hkk, HL.out]
          simp
          omega))
        have hlt' : ¬ (k : Int) < (s.size : Int) := by omega
        have dk : decide ((k : Int) < (s.size : Int)) = false := decide_eq_false hlt'
        clear hbt0 d2 d2'
        go_wp2_with fail
        go_ret
        exact ⟨by rw [E.out]; rfl, rfl⟩
theorem variableR0 (s : ByteArray) (w : World) (hs : s.size ≤ 9223372036854775807) : Calls Try.prog 95 #[.string s] w fun e w' => e = .returned (.bool (variableB s)) ∧ w' = w := by
  obtain ⟨b, hb⟩ : ∃ b, varNameB s = b := ⟨_, rfl⟩
  have HV := Lib.hid (hb ▸ varNameR0 s w hs)
  have HB := Lib.hid hb
  clear hb
  cases b with
  | false =>
    go_enter Try.func95, Try.ntmps95
    go_wp2_with (go_at_call 86; refine HV.out.mono ?_; rintro e w1 ⟨rfl, rfl⟩)
    go_ret
    exact ⟨by unfold variableB; rw [HB.out, Bool.and_false]; rfl, rfl⟩
  | true =>
    go_enter Try.func95, Try.ntmps95
    go_wp2_with (go_at_call 86; refine HV.out.mono ?_; rintro e w1 ⟨rfl, rfl⟩)
    all_goals go_ret
    all_goals refine ⟨congrArg Ending.returned (congrArg Value.bool ?_), rfl⟩
    all_goals (have := HB.out; unfold variableB reserved; simp_all)
def arityB (k : Int) : Int := if 1 ≤ k ∧ k ≤ 5 then 0 else if k = 6 ∨ k = 11 then 1 else if 7 ≤ k ∧ k ≤ 13 then 2 else -1
theorem arity0 (k : Int) (w : World) : Calls Try.prog 90 #[.int .i64 k] w fun e w' => e = .returned (.int .i64 (arityB k)) ∧ w' = w := by
  have hk : k = 1 ∨ k = 2 ∨ k = 3 ∨ k = 4 ∨ k = 5 ∨ k = 6 ∨ k = 7 ∨ k = 8 ∨ k = 9 ∨ k = 10 ∨ k = 11 ∨ k = 12 ∨ k = 13 ∨ (k < 1 ∨ 13 < k) := by omega
  rcases hk with rfl | rfl | rfl | rfl | rfl | rfl | rfl | rfl | rfl | rfl | rfl | rfl | rfl | hk
  case inr.inr.inr.inr.inr.inr.inr.inr.inr.inr.inr.inr.inr =>
    have E := Lib.hid (show arityB k = -1 from by unfold arityB; rw [if_neg (by omega), if_neg (by omega), if_neg (by omega)])
    have b1 : (k == 1) = false := by simp; omega
    have b2 : (k == 2) = false := by simp; omega
    have b3 : (k == 3) = false := by simp; omega
    have b4 : (k == 4) = false := by simp; omega
    have b5 : (k == 5) = false := by simp; omega
    have b6 : (k == 6) = false := by simp; omega
    have b7 : (k == 7) = false := by simp; omega
    have b8 : (k == 8) = false := by simp; omega
    have b9 : (k == 9) = false := by simp; omega
    have b10 : (k == 10) = false := by simp; omega
    have b11 : (k == 11) = false := by simp; omega
    have b12 : (k == 12) = false := by simp; omega
    have b13 : (k == 13) = false := by simp; omega
    clear hk
    go_enter Try.func90, Try.ntmps90
    go_wp2_with fail
    go_ret
    exact ⟨by rw [E.out]; rfl, rfl⟩
  all_goals
    go_enter Try.func90, Try.ntmps90
    go_wp2_with fail
    go_ret
    exact ⟨rfl, rfl⟩
end Go.Proofs.Ytoaopjbgaehpfaa.G
end
section
/- The reference's Check of a pattern, and that it is the program's. -/
namespace Go.Proofs.Ytoaopjbgaehpfaa.G
open Go.RowKit
attribute [local simp, local go_sem] alloc_drewN setCell_drewN
set_option linter.unusedVariables false
set_option linter.unusedSimpArgs false
set_option maxRecDepth 100000
def rcheckRes (p : ByteArray) : Int × Int := if 256 < p.size then (0, 61) else match pcsGo p 0 [] with
  | .inl z => ((z : Int), 60)
  | .inr _ => (0, 0)
set_option maxHeartbeats 4000000 in
theorem rcheck0 (p : ByteArray) (w : World) (hp : p.size ≤ 9223372036854775807) :
    Calls Try.prog 96 #[.string p] w fun e w' => e = .returned (.tuple #[.int .i64 (rcheckRes p).1, .int .i64 (rcheckRes p).2]) ∧ But No w w' := by
  have hp2 : p.size ≤ 9223372036854775807 := by omega
  by_cases h1 : 256 < p.size
  · have E := Lib.hid (show rcheckRes p = (0, 61) from if_pos h1)
    go_enter Try.func96, Try.ntmps96
    go_wp2_with fail
    go_ret2
    exact ⟨by rw [E.out]; rfl, But.refl _ _⟩
  · have h2 : p.size ≤ 256 := by omega
    cases hG : pcsGo p 0 [] with
    | inl z =>
      have E := Lib.hid (show rcheckRes p = ((z : Int), 60) from by unfold rcheckRes; rw [if_neg h1, hG])
      have H := Lib.hid hG
      clear hG
      go_enter Try.func96, Try.ntmps96
      go_wp2_with fail
      refine (pieces0 p h2 w _ H.out).mono ?_
      rintro e w1 ⟨hb, rfl⟩
      go_wp2_with fail
      go_ret2
      exact ⟨by rw [E.out]; rfl, hb⟩
    | inr l =>
      have E := Lib.hid (show rcheckRes p = (0, 0) from by unfold rcheckRes; rw [if_neg h1, hG])
      have H := Lib.hid hG
      clear hG
      go_enter Try.func96, Try.ntmps96
      go_wp2_with fail
      refine (pieces0 p h2 w _ H.out).mono ?_
      rintro e w1 ⟨hb, v, rfl, hI⟩
      go_wp2_with fail
      go_ret2
      exact ⟨by rw [E.out]; rfl, hb⟩
def toStp (q : Pce) : Stp := if q.1 = 0 then ⟨false, q.2⟩ else ⟨true, if q.1 = 2 then fun _ => true else fun c => c != 47⟩
theorem byteB_ok {p : ByteArray} {x : Nat} (y : Int) (h : escBad p x = false) : byteB p x y = y := by
  unfold byteB
  unfold escBad at h
  by_cases h1 : bt p x = 92
  · rw [if_pos h1, if_neg (by simp [h1] at h; omega)]
  · rw [if_neg h1]
theorem escBad_parts {p : ByteArray} {x : Nat} (h : escBad p x = true) : bt p x = 92 ∧ p.size ≤ x + 1 := by
  simpa [escBad] using h
theorem byteB_bad {p : ByteArray} {x : Nat} (y : Int) (h : escBad p x = true) : byteB p x y = wrongAt y x := by
  obtain ⟨h1, h2⟩ := escBad_parts h
  unfold byteB
  rw [if_pos h1, if_pos h2]
theorem byteA_bad {p : ByteArray} {x : Nat} (h : escBad p x = true) : byteA p x = x + 1 := by
  obtain ⟨h1, h2⟩ := escBad_parts h
  unfold byteA
  rw [if_pos h1, if_pos h2]
theorem rgo_class (p : ByteArray) (fr : Nat) : ∀ n x R z S, p.size - x ≤ n → rgo p x R = some (z, S) → classGo p fr x (-1) R = (z, -1, S) := by
  intro n
  induction n with
  | zero =>
    intro x R z S h e
    have hg : goes p x = false := by
      cases hg : goes p x with
      | false => rfl
      | true => have := goes_lt hg; omega
    rw [rgo_stop R hg] at e
    simp only [Option.some.injEq, Prod.mk.injEq] at e
    rw [classGo_stop _ _ _ _ _ hg, e.1, e.2]
  | succ n ih =>
    intro x R z S h e
    cases hg : goes p x with
    | false =>
      rw [rgo_stop R hg] at e
      simp only [Option.some.injEq, Prod.mk.injEq] at e
      rw [classGo_stop _ _ _ _ _ hg, e.1, e.2]
    | true =>
      have hx := goes_lt hg
      rw [classGo_go _ _ _ _ _ hg]
      cases h1 : escBad p x with
      | true => rw [rgo_bad R hg h1] at e; cases e
      | false =>
        have b1 := byteB_ok (-1) h1
        have l1 := byteA_lt p x
        have l2 := byteA_lt p (byteA p x + 1)
        cases h2 : dash p (byteA p x) with
        | false =>
          rw [rgo_one R hg h1 h2] at e
          have := ih _ _ _ _ (by omega) e
          unfold stA stB stH
          rw [h2]
          simp only [Bool.false_eq_true, if_false, Int.lt_irrefl, b1]
          exact this
        | true =>
          cases h3 : escBad p (byteA p x + 1) with
          | true => rw [rgo_bad2 R hg h1 h2 h3] at e; cases e
          | false =>
            by_cases h4 : byteV p (byteA p x + 1) < byteV p x
            · rw [rgo_turned R hg h1 h2 h3 h4] at e; cases e
            · rw [rgo_two R hg h1 h2 h3 h4] at e
              have := ih _ _ _ _ (by omega) e
              unfold stA stB stH
              rw [h2]
              simp only [if_true, b1, byteB_ok (-1) h3, if_neg h4]
              exact this
def Inv (fr : Nat) (y : Int) : Prop := y = -1 ∨ (fr : Int) ≤ y
theorem Inv.at_ {fr : Nat} {y : Int} (h : Inv fr y) : wrongAt y fr = fr := by
  unfold wrongAt
  rcases h with h | h
  · rw [if_pos (by omega)]
  · rw [if_neg (by omega)]
    split
    · rfl
    · omega
theorem Inv.step {fr : Nat} {y : Int} (h : Inv fr y) (z : Nat) (hz : fr ≤ z) : Inv fr (wrongAt y z) := by
  unfold wrongAt Inv
  rcases h with h | h
  · rw [if_pos (by omega)]; omega
  · rw [if_neg (by omega)]
    split <;> omega
theorem wrongAt_low {y : Int} {z : Nat} (h0 : 0 ≤ y) (h : y ≤ z) : wrongAt y z = y := by
  unfold wrongAt
  rw [if_neg (by omega), if_neg (by omega)]
theorem byteB_low {p : ByteArray} {x : Nat} {y : Int} (h0 : 0 ≤ y) (h : y ≤ x) : byteB p x y = y := by
  cases h1 : escBad p x with
  | false => exact byteB_ok y h1
  | true => rw [byteB_bad y h1, wrongAt_low h0 h]
theorem class_low (p : ByteArray) (fr : Nat) (y : Int) (h0 : 0 ≤ y) (hy : y ≤ fr) : ∀ n x R, p.size - x ≤ n → fr ≤ x → (classGo p fr x y R).2.1 = y := by
  intro n
  induction n with
  | zero =>
    intro x R h hx
    have hg : goes p x = false := by
      cases hg : goes p x with
      | false => rfl
      | true => have := goes_lt hg; omega
    rw [classGo_stop _ _ _ _ _ hg]
  | succ n ih =>
    intro x R h hx
    cases hg : goes p x with
    | false => rw [classGo_stop _ _ _ _ _ hg]
    | true =>
      have hxl := goes_lt hg
      have l0 := stA_lt p x
      rw [classGo_go _ _ _ _ _ hg]
      have hb : stB p x y = y := by
        unfold stB
        have l1 := byteA_lt p x
        rw [byteB_low h0 (by omega : y ≤ (x : Int))]
        split
        · exact byteB_low h0 (by omega)
        · rfl
      rw [hb, wrongAt_low h0 hy]
      simp only [ite_self]
      exact ih _ _ (by omega) (by omega)
theorem stop_end (p : ByteArray) (fr x : Nat) (y : Int) (R : List (Int × Int)) (h : p.size ≤ x) (hi : Inv fr y) : classBad p fr (classGo p fr x y R) = fr := by
  have hg : goes p x = false := by
    cases hg : goes p x with
    | false => rfl
    | true => have := goes_lt hg; omega
  rw [classGo_stop _ _ _ _ _ hg]
  unfold classBad
  rw [if_pos (.inl h)]
  exact hi.at_
theorem class_bad (p : ByteArray) (fr : Nat) : ∀ n x R y, p.size - x ≤ n → fr < x → Inv fr y → rgo p x R = none → classBad p fr (classGo p fr x y R) = fr := by
  intro n
  induction n with
  | zero =>
    intro x R y h hx hi e
    have hg : goes p x = false := by
      cases hg : goes p x with
      | false => rfl
      | true => have := goes_lt hg; omega
    rw [rgo_stop R hg] at e
    cases e
  | succ n ih =>
    intro x R y h hx hi e
    cases hg : goes p x with
    | false => rw [rgo_stop R hg] at e; cases e
    | true =>
      have hxl := goes_lt hg
      have l1 := byteA_lt p x
      have l2 := byteA_lt p (byteA p x + 1)
      rw [classGo_go _ _ _ _ _ hg]
      cases h1 : escBad p x with
      | true =>
        have hs := (escBad_parts h1).2
        have ha := byteA_bad h1
        have hd : dash p (byteA p x) = false := by
          unfold dash
          rw [ha]
          simp
          omega
        unfold stA stB stH
        rw [hd]
        simp only [Bool.false_eq_true, if_false, Int.lt_irrefl, byteB_bad y h1]
        exact stop_end _ _ _ _ _ (by omega) (hi.step x (by omega))
      | false =>
        have b1 := byteB_ok y h1
        cases h2 : dash p (byteA p x) with
        | false =>
          rw [rgo_one R hg h1 h2] at e
          unfold stA stB stH
          rw [h2]
          simp only [Bool.false_eq_true, if_false, Int.lt_irrefl, b1]
          exact ih _ _ _ (by omega) (by omega) hi e
        | true =>
          unfold stA stB stH
          rw [h2]
          simp only [if_true, b1]
          cases h3 : escBad p (byteA p x + 1) with
          | true =>
            have hs := (escBad_parts h3).2
            have ha := byteA_bad h3
            rw [byteB_bad y h3]
            have hi2 := hi.step (byteA p x + 1) (by omega)
            refine stop_end _ _ _ _ _ (by omega) ?_
            split
            · exact .inr (by rw [hi2.at_]; exact Int.le_refl _)
            · exact hi2
          | false =>
            rw [byteB_ok y h3]
            by_cases h4 : byteV p (byteA p x + 1) < byteV p x
            · rw [if_pos h4, hi.at_]
              have := class_low p fr fr (by omega) (by omega) _ (byteA p (byteA p x + 1)) (R ++ [(byteV p x, byteV p (byteA p x + 1))]) (Nat.le_refl _) (by omega)
              unfold classBad
              rw [this, wrongAt_low (by omega) (by omega)]
              simp
            · rw [if_neg h4]
              rw [rgo_two R hg h1 h2 h3 h4] at e
              exact ih _ _ _ (by omega) (by omega) hi e
/-- Brackets that the document takes. -/
theorem brk_cls {p : ByteArray} {x z : Nat} {f : Int → Bool} (h : brk p x = some (z, f)) : ∃ R, clsF p x (-1) = (z - 1, -1, R) ∧ z - 1 < p.size ∧ 1 ≤ z ∧ R ≠ [] ∧ f = classL R (notAt p (x + 1)) := by
  unfold brk at h
  split at h
  · rename_i y R hr
    split at h
    · rename_i hc
      simp only [Option.some.injEq, Prod.mk.injEq] at h
      obtain ⟨h1, h2⟩ := h
      refine ⟨R, ?_, by omega, by omega, hc.2, h2.symm⟩
      unfold clsF
      rw [rgo_class p x _ _ _ _ _ (Nat.le_refl _) hr]
      congr 1
      omega
    · cases h
  · cases h
theorem brk_cls_no {p : ByteArray} {x : Nat} (h : brk p x = none) : classBad p x (clsF p x (-1)) = x := by
  unfold brk at h
  split at h
  · rename_i y R hr
    split at h
    · cases h
    · rename_i hc
      unfold clsF
      rw [rgo_class p x _ _ _ _ _ (Nat.le_refl _) hr]
      unfold classBad
      rw [if_pos (by
        by_cases h1 : y < p.size
        · right
          by_cases h2 : R = []
          · exact h2
          · exact absurd ⟨h1, h2⟩ hc
        · left
          show p.size ≤ y
          omega)]
      exact Inv.at_ (.inl rfl)
  · rename_i hr
    unfold clsF
    refine class_bad p x _ _ _ _ (Nat.le_refl _) ?_ (.inl rfl) hr
    split <;> omega
theorem stp_stop {p : ByteArray} {x : Nat} (y : Int) (l : List Stp) (h : ¬ x < p.size) : stepsGo p x y l = (y, l) := by rw [stepsGo, dif_neg h]
theorem stp_all {p : ByteArray} {x : Nat} (y : Int) (l : List Stp) (h : x < p.size) (h1 : bt p x = 42) (h2 : x + 1 < p.size ∧ bt p (x + 1) = 42) : stepsGo p x y l = stepsGo p (x + 2) y (l ++ [⟨true, fun _ => true⟩]) := by rw [stepsGo, dif_pos h, if_pos h1, if_pos h2]
theorem stp_some {p : ByteArray} {x : Nat} (y : Int) (l : List Stp) (h : x < p.size) (h1 : bt p x = 42) (h2 : ¬ (x + 1 < p.size ∧ bt p (x + 1) = 42)) : stepsGo p x y l = stepsGo p (x + 1) y (l ++ [⟨true, fun c => c != 47⟩]) := by rw [stepsGo, dif_pos h, if_pos h1, if_neg h2]
theorem stp_quest {p : ByteArray} {x : Nat} (y : Int) (l : List Stp) (h : x < p.size) (h1 : bt p x = 63) : stepsGo p x y l = stepsGo p (x + 1) y (l ++ [⟨false, fun c => c != 47⟩]) := by rw [stepsGo, dif_pos h, if_neg (by omega), if_pos h1]
theorem stp_brk {p : ByteArray} {x : Nat} (y : Int) (l : List Stp) (h : x < p.size) (h1 : bt p x = 91) : stepsGo p x y l = stepsGo p ((clsF p x y).1 + 1) (classBad p x (clsF p x y)) (l ++ [⟨false, classL (clsF p x y).2.2 (notAt p (x + 1))⟩]) := by rw [stepsGo, dif_pos h, if_neg (by omega), if_neg (by omega), if_pos h1]
theorem stp_byte {p : ByteArray} {x : Nat} (y : Int) (l : List Stp) (h : x < p.size) (h1 : bt p x ≠ 42) (h2 : bt p x ≠ 63) (h3 : bt p x ≠ 91) : stepsGo p x y l = stepsGo p (byteA p x) (byteB p x y) (l ++ [⟨false, fun c => c == byteV p x⟩]) := by rw [stepsGo, dif_pos h, if_neg h1, if_neg h2, if_neg h3]
theorem steps_low (p : ByteArray) (y : Int) (h0 : 0 ≤ y) : ∀ n x l, p.size - x ≤ n → y ≤ x → (stepsGo p x y l).1 = y := by
  intro n
  induction n with
  | zero =>
    intro x l h hy
    rw [stp_stop y l (by omega)]
  | succ n ih =>
    intro x l h hy
    by_cases hx : x < p.size
    · by_cases c1 : bt p x = 42
      · by_cases c2 : x + 1 < p.size ∧ bt p (x + 1) = 42
        · rw [stp_all y l hx c1 c2]; exact ih _ _ (by omega) (by omega)
        · rw [stp_some y l hx c1 c2]; exact ih _ _ (by omega) (by omega)
      · by_cases c3 : bt p x = 63
        · rw [stp_quest y l hx c3]; exact ih _ _ (by omega) (by omega)
        · by_cases c4 : bt p x = 91
          · have hc := clsF_gt p x y
            have hl : (clsF p x y).2.1 = y := class_low p x y h0 hy _ _ [] (Nat.le_refl _) (by split <;> omega)
            have hb : classBad p x (clsF p x y) = y := by
              unfold classBad
              rw [hl, wrongAt_low h0 hy]
              simp
            rw [stp_brk y l hx c4, hb]
            exact ih _ _ (by omega) (by omega)
          · have hc := byteA_lt p x
            rw [stp_byte y l hx c1 c3 c4, byteB_low h0 hy]
            exact ih _ _ (by omega) (by omega)
    · rw [stp_stop y l hx]
theorem toStp_all : toStp ((2, fun _ => false) : Pce) = ⟨true, fun _ => true⟩ := rfl
theorem toStp_some : toStp ((1, fun _ => false) : Pce) = ⟨true, fun c => c != 47⟩ := rfl
theorem toStp_one (f : Int → Bool) : toStp ((0, f) : Pce) = ⟨false, f⟩ := rfl
theorem pcs_steps (p : ByteArray) : ∀ n x m, p.size - x ≤ n → match pcsGo p x m with
    | .inl z => (stepsGo p x (-1) (m.map toStp)).1 = (z : Int)
    | .inr m' => stepsGo p x (-1) (m.map toStp) = (-1, m'.map toStp) := by
  intro n
  induction n with
  | zero =>
    intro x m h
    rw [pcs_stop m (by omega), stp_stop (-1) _ (by omega)]
  | succ n ih =>
    intro x m h
    by_cases hx : x < p.size
    · by_cases c1 : bt p x = 42
      · by_cases c2 : x + 1 < p.size ∧ bt p (x + 1) = 42
        · have := ih (x + 2) (m ++ [((2, fun _ => false) : Pce)]) (by omega)
          rw [List.map_append, List.map_cons, List.map_nil, toStp_all] at this
          rw [pcs_all m hx c1 c2, stp_all (-1) _ hx c1 c2]
          exact this
        · have := ih (x + 1) (m ++ [((1, fun _ => false) : Pce)]) (by omega)
          rw [List.map_append, List.map_cons, List.map_nil, toStp_some] at this
          rw [pcs_some m hx c1 c2, stp_some (-1) _ hx c1 c2]
          exact this
      · by_cases c3 : bt p x = 63
        · have := ih (x + 1) (m ++ [((0, fun c => c != 47) : Pce)]) (by omega)
          rw [List.map_append, List.map_cons, List.map_nil, toStp_one] at this
          rw [pcs_quest m hx c3, stp_quest (-1) _ hx c3]
          exact this
        · by_cases c4 : bt p x = 91
          · rw [stp_brk (-1) _ hx c4]
            cases hB : brk p x with
            | none =>
              rw [pcs_brkno m hx c4 hB]
              have := clsF_gt p x (-1)
              rw [brk_cls_no hB]
              exact steps_low p x (by omega) _ _ _ (Nat.le_refl _) (by omega)
            | some F =>
              obtain ⟨z, f⟩ := F
              obtain ⟨R, e1, e2, e3, e4, e5⟩ := brk_cls hB
              have hg := brk_gt hB
              rw [pcs_brk m hx c4 hB, e1]
              have hb : classBad p x (z - 1, -1, R) = -1 := classBad_no e2 (List.length_pos_iff.2 e4)
              rw [hb]
              have := ih z (m ++ [((0, f) : Pce)]) (by omega)
              rw [List.map_append, List.map_cons, List.map_nil, toStp_one, e5] at this
              simp only [show z - 1 + 1 = z from by omega]
              rw [e5]
              exact this
          · rw [stp_byte (-1) _ hx c1 c3 c4]
            by_cases c5 : bt p x = 92
            · by_cases c6 : p.size ≤ x + 1
              · have hE : escBad p x = true := by simp [escBad, c5, c6]
                rw [pcs_escno m hx c5 c6, byteB_bad _ hE, byteA_bad hE]
                have : wrongAt (-1) x = x := Inv.at_ (.inl rfl)
                rw [this]
                exact steps_low p x (by omega) _ _ _ (Nat.le_refl _) (by omega)
              · have hE : escBad p x = false := by simp [escBad, c5]; omega
                have hv : byteV p x = bt p (x + 1) := by unfold byteV; rw [if_pos c5, if_neg c6]
                have ha : byteA p x = x + 2 := by unfold byteA; rw [if_pos c5, if_neg c6]
                have := ih (x + 2) (m ++ [((0, fun c => c == bt p (x + 1)) : Pce)]) (by omega)
                rw [List.map_append, List.map_cons, List.map_nil, toStp_one] at this
                rw [pcs_esc m hx c5 c6, byteB_ok _ hE, hv, ha]
                exact this
            · have hE : escBad p x = false := by simp [escBad, c5]
              have hv : byteV p x = bt p x := by unfold byteV; rw [if_neg c5]
              have ha : byteA p x = x + 1 := by unfold byteA; rw [if_neg c5]
              have := ih (x + 1) (m ++ [((0, fun c => c == bt p x) : Pce)]) (by omega)
              rw [List.map_append, List.map_cons, List.map_nil, toStp_one] at this
              rw [pcs_byte m hx c1 c3 c4 c5, byteB_ok _ hE, hv, ha]
              exact this
    · rw [pcs_stop m hx, stp_stop (-1) _ hx]
theorem rcheck_eq (p : ByteArray) : rcheckRes p = checkRes p := by
  unfold rcheckRes checkRes
  by_cases h : 256 < p.size
  · rw [if_pos h, if_pos h]
  · rw [if_neg h, if_neg h]
    have := pcs_steps p _ 0 [] (Nat.le_refl _)
    unfold gSteps
    rw [List.map_nil] at this
    cases hG : pcsGo p 0 [] with
    | inl z =>
      rw [hG] at this
      simp only [] at this
      rw [if_pos (by omega), this]
    | inr l =>
      rw [hG] at this
      simp only [] at this
      rw [this, if_neg (by simp)]
end Go.Proofs.Ytoaopjbgaehpfaa.G
end
section
/- The reference's expressions: own, fits. -/
namespace Go.Proofs.Ytoaopjbgaehpfaa.G
open Go.RowKit
attribute [local simp, local go_sem] alloc_drewN setCell_drewN
set_option linter.unusedVariables false
set_option linter.unusedSimpArgs false
set_option maxRecDepth 100000
def ownB (k : Int) (tx : ByteArray) : Bool := if k = 1 then decide (tx.size ≤ 1024) else if k = 2 ∨ k = 3 then variableB tx else tx.toList.isEmpty
theorem own0 (k : Int) (tx : ByteArray) (w : World) (hs : tx.size ≤ 9223372036854775807) : Calls Try.prog 91 #[.agg #[.int .i64 k, .string tx]] w fun e w' => e = .returned (.bool (ownB k tx)) ∧ But No w w' := by
  have hk : k = 1 ∨ (k = 2 ∨ k = 3) ∨ (k ≠ 1 ∧ k ≠ 2 ∧ k ≠ 3) := by omega
  rcases hk with rfl | hk | ⟨h1, h2, h3⟩
  · have E := Lib.hid (show ownB 1 tx = decide ((tx.size : Int) ≤ 1024) from by unfold ownB; rw [if_pos rfl, Bool.eq_iff_iff, decide_eq_true_eq, decide_eq_true_eq]; omega)
    go_enter Try.func91, Try.ntmps91
    go_wp2_with fail
    go_ret
    exact ⟨by rw [E.out]; rfl, (But.refl No w).alloc _⟩
  · have E := Lib.hid (show ownB k tx = variableB tx from by unfold ownB; rw [if_neg (by omega), if_pos hk])
    obtain ⟨b, hb⟩ : ∃ b, variableB tx = b := ⟨_, rfl⟩
    have HV := Lib.hid (fun W => hb ▸ variableR0 tx W hs)
    have HB := Lib.hid hb
    clear hb
    rcases hk with rfl | rfl
    all_goals
      go_enter Try.func91, Try.ntmps91
      go_wp2_with (go_at_call 95; refine (HV.out _).mono ?_; rintro e w1 ⟨rfl, rfl⟩)
      go_ret
      exact ⟨by rw [E.out, HB.out]; rfl, (But.refl No w).alloc _⟩
  · have E := Lib.hid (show ownB k tx = tx.toList.isEmpty from by unfold ownB; rw [if_neg h1, if_neg (by omega)])
    have b1 : (k == 1) = false := by simp; omega
    have b2 : (k == 2) = false := by simp; omega
    have b3 : (k == 3) = false := by simp; omega
    clear h1 h2 h3
    go_enter Try.func91, Try.ntmps91
    go_wp2_with fail
    go_ret
    exact ⟨by rw [E.out]; rfl, (But.refl No w).alloc _⟩
def trB (k : Int) : Bool := k != 1 && k != 2
def truthsB (k : Int) : Bool := k == 11 || (k == 12 || k == 13)
def globB (l : List (Int × ByteArray)) : Bool := match l[1]? with
  | some q => q.1 == 1 && (rcheckRes q.2).2 == 0
  | none => false
def fitsB (k : Int) (l : List (Int × ByteArray)) : Bool := l.all (fun y => trB y.1 == truthsB k) && (if k = 9 ∨ k = 10 then globB l else true)
def FtAt (w : World) (k : Int) (l : List (Int × ByteArray)) (gk : Nat) (v : Value) (wr : World) : Prop := ∃ i : Nat, gk = l.length - i ∧ i ≤ l.length ∧ v = .int .i64 (i : Int) ∧ But No w wr ∧ wr.cell? ⟨w.heap.size, 0, none⟩ = some (.int .i64 k) ∧ (l.take i).all (fun y => trB y.1 == truthsB k) = true
set_option maxHeartbeats 8000000 in
theorem fits0 (k : Int) (tx : ByteArray) (A : Option Addr) (c : Nat) (l : List (Int × ByteArray)) (w : World) (hT : StepsIn w A l) (hl : l.length ≤ 2) (h9 : k = 9 ∨ k = 10 → l.length = 2) (hs : ∀ q ∈ l, q.2.size ≤ 9223372036854775807) :
    Calls Try.prog 92 #[.agg #[.int .i64 k, .string tx], .slice A l.length c] w fun e w' => e = .returned (.bool (fitsB k l)) ∧ But No w w' := by
  have HT := Lib.hid hT
  have H9 := Lib.hid h9
  have HS := Lib.hid hs
  have hl2 : l.length ≤ 9223372036854775807 := by omega
  have hW1 := (But.refl No w).alloc (.cells #[.int .i64 k, .string tx] 115)
  have HW1 := Lib.hid hW1
  clear hT h9 hs hW1
  go_enter Try.func92, Try.ntmps92
  go_upto_region 1 with (fail)
  go_cut [5] (fun v wc => v = .bool (truthsB k) ∧ wc = w.alloc (.cells #[.int .i64 k, .string tx] 115))
  case first =>
    obtain ⟨x11, h11⟩ : ∃ b, (k == 11) = b := ⟨_, rfl⟩
    obtain ⟨x12, h12⟩ : ∃ b, (k == 12) = b := ⟨_, rfl⟩
    obtain ⟨x13, h13⟩ : ∃ b, (k == 13) = b := ⟨_, rfl⟩
    have E := Lib.hid (show truthsB k = (x11 || (x12 || x13)) from by unfold truthsB; rw [h11, h12, h13])
    cases x11
    all_goals cases x12
    all_goals cases x13
    all_goals go_wp2_with fail
    all_goals go_meet
    all_goals exact ⟨by rw [E.out]; rfl, rfl⟩
  case rest =>
    obtain ⟨rfl, rfl⟩ := hcut
    obtain ⟨tt, htt⟩ : ∃ tt, truthsB k = tt := ⟨_, rfl⟩
    rw [htt]
    have HTT := Lib.hid htt
    clear htt
    go_wp2_with fail
    go_loopg [6] l.length (fun gk v wr => FtAt w k l gk v wr)
    case atStart => exact ⟨0, rfl, Nat.zero_le _, rfl, HW1.out, blkcell (heap_alloc_new w _) 0 (by simp), rfl⟩
    case round =>
      obtain ⟨i, hgk, hi, rfl, hb, hk0, hall⟩ := hrel
      have HGK := Lib.hid hgk
      have HB := Lib.hid hb
      have HALL := Lib.hid hall
      have HK0 := Lib.hid hk0
      clear hgk hb hall
      by_cases hlt : i < l.length
      · obtain ⟨ad, hA, k1, k2⟩ := HT.out i hlt
        cases hA
        have k1' := HB.out.cell_some k1 (fun c => c)
        obtain ⟨⟨kk, tx'⟩, hq⟩ : ∃ q, l[i] = q := ⟨_, rfl⟩
        rw [hq] at k1'
        have HQ := Lib.hid hq
        have hlt' : (i : Int) < (l.length : Int) := by omega
        have dl : decide ((i : Int) < (l.length : Int)) = true := by simp; omega
        clear k1 k2 hq hk0
        go_upto_region 5 with (fail)
        go_cut [7] (fun v wc => v = .bool (trB kk) ∧ wr = wc)
        case first =>
          go_wp2_with fail
          all_goals go_meet
          all_goals refine ⟨congrArg Value.bool ?_, rfl⟩
          all_goals (rw [Bool.eq_iff_iff]; simp [trB]; try omega)
        case rest =>
          obtain ⟨rfl, rfl⟩ := hcut
          obtain ⟨tb, htb⟩ : ∃ tb, trB kk = tb := ⟨_, rfl⟩
          rw [htb]
          have HTB := Lib.hid htb
          clear htb k1'
          by_cases hbt : tb = tt
          · subst hbt
            have e0 : (tb == tb) = true := by cases tb <;> rfl
            go_wp2_with fail
            go_roundg (l.length - (i + 1))
            case measure => rw [HGK.out]; omega
            case rel => exact ⟨i + 1, rfl, by omega, by go_num, HB.out, HK0.out, by
              rw [List.take_add_one, List.getElem?_eq_getElem hlt, List.all_append, HALL.out, Bool.true_and, HQ.out]
              simp [HTB.out, HTT.out]⟩
          · have e0 : (tb == tt) = false := by revert hbt; cases tb <;> cases tt <;> simp
            have E := Lib.hid (show fitsB k l = false from by
              unfold fitsB
              rw [show l.all (fun y => trB y.1 == truthsB k) = false from by
                rw [List.all_eq_false]
                exact ⟨l[i], List.getElem_mem hlt, by rw [HQ.out, HTB.out, HTT.out]; revert hbt; cases tb <;> cases tt <;> simp⟩]
              rfl)
            clear hbt
            go_wp2_with fail
            go_ret
            exact ⟨by rw [E.out]; rfl, HB.out⟩
      · obtain rfl : i = l.length := by omega
        have hlt' : ¬ (l.length : Int) < (l.length : Int) := by omega
        have HA2 := Lib.hid (show l.all (fun y => trB y.1 == truthsB k) = true from by have := HALL.out; rwa [List.take_length] at this)
        by_cases h9 : k = 9 ∨ k = 10
        · obtain ⟨a, b, rfl⟩ : ∃ a b, l = [a, b] := by
            have hlen := H9.out h9
            match l, hlen with
            | [a, b], _ => exact ⟨a, b, rfl⟩
          obtain ⟨ad, hA, k1, k2⟩ := HT.out 1 (by simp)
          cases hA
          obtain ⟨kk, tx'⟩ := b
          have k1' := HB.out.cell_some k1 (fun c => c)
          have k2' := HB.out.cell_some k2 (fun c => c)
          have hsz := HS.out (kk, tx') (by simp)
          simp only [List.length_cons, List.length_nil] at *
          clear k1 k2
          have ha2 : ad.add (1 * 2) = ⟨ad.block, ad.off + 2, none⟩ := by unfold Addr.add; split <;> simp_all
          rw [ha2] at k1' k2'
          have HA := Lib.hid ha2
          clear ha2
          obtain ⟨⟨r1, r2⟩, hr⟩ : ∃ r, rcheckRes tx' = r := ⟨_, rfl⟩
          have hR := fun W => rcheck0 tx' W hsz
          rw [hr] at hR
          have HR := Lib.hid hR
          obtain ⟨x1, hx1⟩ : ∃ b, (kk == 1) = b := ⟨_, rfl⟩
          obtain ⟨x2, hx2⟩ : ∃ b, (r2 == 0) = b := ⟨_, rfl⟩
          have E := Lib.hid (show fitsB k [a, (kk, tx')] = (x1 && x2) from by unfold fitsB; rw [HA2.out, if_pos h9, Bool.true_and, ← hx1, ← hx2]; unfold globB; show (kk == 1 && (rcheckRes tx').2 == 0) = _; rw [hr])
          clear hR hr
          rcases h9 with rfl | rfl
          all_goals cases x1
          all_goals cases x2
          all_goals
            go_wp2_with fail
            refine (HR.out _).mono ?_
            rintro e w1 ⟨rfl, hb1⟩
            have k1'' := hb1.cell_some k1' (fun c => c)
            have HB1 := Lib.hid (HB.out.trans hb1)
            clear hb1 k1' hk0
            go_wp2_with fail
            go_ret
            exact ⟨by rw [E.out]; rfl, HB1.out⟩
        · have E := Lib.hid (show fitsB k l = true from by unfold fitsB; rw [HA2.out, if_neg h9]; rfl)
          have b9 : (k != 9) = true := by simp; omega
          have b10 : (k != 10) = true := by simp; omega
          clear h9
          go_wp2_with fail
          go_ret
          exact ⟨by rw [E.out]; rfl, HB.out⟩
end Go.Proofs.Ytoaopjbgaehpfaa.G
end
