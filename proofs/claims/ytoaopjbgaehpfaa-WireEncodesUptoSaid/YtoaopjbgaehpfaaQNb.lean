/- The reference's wire: a job in its bytes. -/
import Derived.Test.YtoaopjbgaehpfaaQMp
import Derived.Test.YtoaopjbgaehpfaaQMl
namespace Go.Proofs.Ytoaopjbgaehpfaa.G
open Go.RowKit
attribute [local simp, local go_sem] alloc_drewN setCell_drewN
set_option linter.unusedVariables false
set_option linter.unusedSimpArgs false
set_option maxRecDepth 100000
theorem named0 (k : Int) (w : World) : Calls Try.prog 42 #[.int .i64 k] w fun e w' => e = .returned (.bool (saysB k)) ∧ w' = w := by
  by_cases h1 : k = 1
  · subst h1
    go_enter Try.func42, Try.ntmps42
    go_wp2_with fail
    go_ret
    exact ⟨rfl, rfl⟩
  by_cases h2 : k = 2
  · subst h2
    go_enter Try.func42, Try.ntmps42
    go_wp2_with fail
    go_ret
    exact ⟨rfl, rfl⟩
  have b1 : (k == 1) = false := by simpa using h1
  have b2 : (k == 2) = false := by simpa using h2
  have E := Lib.hid (show saysB k = (k == 3) from by unfold saysB; rw [b1, b2]; rfl)
  go_enter Try.func42, Try.ntmps42
  go_wp2_with fail
  go_ret
  exact ⟨by rw [E.out]; rfl, rfl⟩
theorem Wrote.alloc {base : Nat} {w W : World} {l : List Int} {v : Value} (h : Wrote base w l v W) (o : Obj) : Wrote base w l v (W.alloc o) := ⟨h.own.alloc o, h.up.trans ((But.refl (Up base) W).alloc o), h.held.trans (heldS_new ((But.refl No W).alloc o))⟩
theorem Wrote.drew {base : Nat} {w W : World} {l : List Int} {v : Value} (h : Wrote base w l v W) : Wrote base w l v W.drew := ⟨h.own, h.up.drew, h.held⟩
def R18At (W1 : World) (base n : Nat) (Lf : Nat → List Int) (gk : Nat) (v0 vi : Value) (wr : World) : Prop := ∃ i : Nat, gk = n - i ∧ i ≤ n ∧ vi = .int .i64 (i : Int) ∧ Wrote base W1 (Lf i) v0 wr
set_option maxHeartbeats 8000000 in
theorem job18 {w0 w : World} {base : Nat} {v : Value} {l : List Int} (h0 : But No w0 w) (hb0 : w0.heap.size ≤ base) (hO : byE.Own w base v l) (hb : base ≤ w.heap.size) (hl : l.length ≤ 1000000000000) (j : JobP) (Ar Av Ap : Option Addr) (cr cv cp : Nat) (hR : RulesIn w0 Ar j.rules) (hV : PairsIn w0 Av j.vars) (hP : IntsIn w0 Ap j.preds) (hn : JobNums j) (hk : OkJ j) :
    Calls Try.prog 24 #[v, .agg #[.int .i64 j.one.name, .int .i64 j.one.run, .int .i64 j.one.stage, .int .i64 j.one.when_, .bool j.allow, .int .i64 j.one.weight, .slice Ar j.rules.length cr, .slice Av j.vars.length cv, .slice Ap j.preds.length cp]] w fun e w' => ∃ v', e = .returned v' ∧ Wrote base w (l ++ jobW j) v' w' := by
  have HR := Lib.hid hR
  have HV := Lib.hid hV
  have HP := Lib.hid hP
  have HN := Lib.hid hn
  have HK := Lib.hid hk
  have hnr := hn.rules
  have hnv := hn.vars
  have hnp := hn.preds
  have HW0 := Lib.hid (show Wrote base w l v (w.alloc (.cells (jobCs j (.slice Ar j.rules.length cr) (.slice Av j.vars.length cv) (.slice Ap j.preds.length cp)) 52)) from (⟨hO, But.refl _ _, HeldS.refl _ _⟩ : Wrote base w l v w).alloc _)
  have HW1 := Lib.hid (show Wrote base (w.alloc (.cells (jobCs j (.slice Ar j.rules.length cr) (.slice Av j.vars.length cv) (.slice Ap j.preds.length cp)) 52)) l v (w.alloc (.cells (jobCs j (.slice Ar j.rules.length cr) (.slice Av j.vars.length cv) (.slice Ap j.preds.length cp)) 52)) from ⟨hO.alloc _, But.refl _ _, HeldS.refl _ _⟩)
  have hbx := heap_alloc_new w (.cells (jobCs j (.slice Ar j.rules.length cr) (.slice Av j.vars.length cv) (.slice Ap j.preds.length cp)) 52)
  have HBX := Lib.hid hbx
  have H0 := Lib.hid (h0.alloc (.cells (jobCs j (.slice Ar j.rules.length cr) (.slice Av j.vars.length cv) (.slice Ap j.preds.length cp)) 52))
  have hb1 : base ≤ (w.alloc (.cells (jobCs j (.slice Ar j.rules.length cr) (.slice Av j.vars.length cv) (.slice Ap j.preds.length cp)) 52)).heap.size := by simp; omega
  have q0 := blkcell hbx 0 (by simp [jobCs])
  have q1 := blkcell hbx 1 (by simp [jobCs])
  have q2 := blkcell hbx 2 (by simp [jobCs])
  have q3 := blkcell hbx 3 (by simp [jobCs])
  have q5 := blkcell hbx 5 (by simp [jobCs])
  simp only [jobCs, List.getElem_toArray, List.getElem_cons_zero, List.getElem_cons_succ] at q0 q1 q2 q3 q5
  obtain ⟨nr, hnr'⟩ : ∃ n, j.rules.length = n := ⟨_, rfl⟩
  obtain ⟨nv, hnv'⟩ : ∃ n, j.vars.length = n := ⟨_, rfl⟩
  obtain ⟨np, hnp'⟩ : ∃ n, j.preds.length = n := ⟨_, rfl⟩
  have HNR := Lib.hid hnr'
  have HNV := Lib.hid hnv'
  have HNP := Lib.hid hnp'
  rw [hnr'] at hnr
  rw [hnv'] at hnv
  rw [hnp'] at hnp
  rw [hnr', hnv', hnp']
  rw [hnr', hnv', hnp'] at HW0 HW1 HBX H0 hb1 q0 q1 q2 q3 q5
  clear h0 hR hV hP hn hk hbx hnr' hnv' hnp' hO
  go_enter Try.func24, Try.ntmps24
  go_wp2_with fail
  simp only [jobCs] at HW0 HW1 HBX H0 hb1 q0 q1 q2 q3 q5
  generalize w.alloc (.cells #[.int .i64 j.one.name, .int .i64 j.one.run, .int .i64 j.one.stage, .int .i64 j.one.when_, .bool j.allow, .int .i64 j.one.weight, .slice Ar nr cr, .slice Av nv cv, .slice Ap np cp] 52) = W1 at *
  refine wp_region_held_drew (S := fun w' => But No w0 w' ∧ w'.heap[w.heap.size]? = some (.cells #[.int .i64 j.one.name, .int .i64 j.one.run, .int .i64 j.one.stage, .int .i64 j.one.when_, .bool j.allow, .int .i64 j.one.weight, .slice Ar nr cr, .slice Av nv cv, .slice Ap np cp] 52 (0, 0))) (by kernel_rfl) ⟨H0.out.drew, drewH HBX.out⟩ (fun hS => ?_)
  refine takeE 0 (some 10) rfl rfl (fun w e1 => by obtain ⟨e1, e2⟩ := e1; go_simp <;> (with_reducible rfl)) hS ?_
  simp only [putS]
  refine takeE 1 (some 11) rfl rfl (fun w e1 => by obtain ⟨e1, e2⟩ := e1; go_simp <;> (with_reducible rfl)) hS ?_
  simp only [putS]
  refine takeE 2 (some 12) rfl rfl (fun w e1 => by obtain ⟨e1, e2⟩ := e1; have z0 := blkcell e2 0 (by simp); simp only [List.getElem_toArray, List.getElem_cons_zero, List.getElem_cons_succ] at z0; go_simp <;> (with_reducible rfl)) hS ?_
  simp only [putS]
  refine takeE 4 (some 14) rfl rfl (fun w e1 => by obtain ⟨e1, e2⟩ := e1; go_simp <;> (with_reducible rfl)) hS ?_
  simp only [putS]
  refine takeE 5 (some 15) rfl rfl (fun w e1 => by obtain ⟨e1, e2⟩ := e1; have z1 := blkcell e2 1 (by simp); simp only [List.getElem_toArray, List.getElem_cons_zero, List.getElem_cons_succ] at z1; go_simp <;> (with_reducible rfl)) hS ?_
  simp only [putS]
  refine takeE 7 (some 17) rfl rfl (fun w e1 => by obtain ⟨e1, e2⟩ := e1; go_simp <;> (with_reducible rfl)) hS ?_
  simp only [putS]
  refine takeE 8 (some 18) rfl rfl (fun w e1 => by obtain ⟨e1, e2⟩ := e1; have z2 := blkcell e2 2 (by simp); simp only [List.getElem_toArray, List.getElem_cons_zero, List.getElem_cons_succ] at z2; go_simp <;> (with_reducible rfl)) hS ?_
  simp only [putS]
  refine takeE 10 (some 20) rfl rfl (fun w e1 => by obtain ⟨e1, e2⟩ := e1; go_simp <;> (with_reducible rfl)) hS ?_
  simp only [putS]
  refine takeE 11 (some 21) rfl rfl (fun w e1 => by obtain ⟨e1, e2⟩ := e1; have z3 := blkcell e2 3 (by simp); simp only [List.getElem_toArray, List.getElem_cons_zero, List.getElem_cons_succ] at z3; go_simp <;> (with_reducible rfl)) hS ?_
  simp only [putS]
  refine takeE 13 (some 23) rfl rfl (fun w e1 => by obtain ⟨e1, e2⟩ := e1; go_simp <;> (with_reducible rfl)) hS ?_
  simp only [putS]
  refine takeE 14 (some 24) rfl rfl (fun w e1 => by obtain ⟨e1, e2⟩ := e1; have z5 := blkcell e2 5 (by simp); simp only [List.getElem_toArray, List.getElem_cons_zero, List.getElem_cons_succ] at z5; go_simp <;> (with_reducible rfl)) hS ?_
  simp only [putS]
  refine wpAnyH_ready (rs := [3]) (by kernel_rfl) (by simp) (AllReadyH.cons rfl (fun K3 hK3 => ?_) AllReadyH.nil)
  rw [if_pos (by kernel_rfl)]
  go_simp
  go_at_call 23
  refine (number18 base _ _ j.one.name _ (HW1.out.drew).own HN.out.name (by omega) (Nat.le_trans hb1 (HW1.out.drew).up.size)).mono ?_
  rintro e w2 ⟨v1, rfl, hA⟩
  have HA1 := Lib.hid ((HW1.out.drew).trans hA)
  have HLA1 := Lib.hid (show (l ++ numW j.one.name).length ≤ 1000000000000 + 4 from by rw [List.length_append]; have := (numW_len j.one.name).2; omega)
  clear hA
  simp only []
  refine hK3.out _ _ ⟨up_no H0.out hb0 HA1.out.up, (HA1.out.held _ _ _ HBX.out (by decide)).trans HBX.out⟩ (fun hS => ?_)
  try simp only [putS, List.getElem_toArray, List.getElem_cons_zero, List.getElem_cons_succ]
  refine wpAnyH_ready (rs := [6]) (by kernel_rfl) (by simp) (AllReadyH.cons rfl (fun K6 hK6 => ?_) AllReadyH.nil)
  rw [if_pos (by kernel_rfl)]
  go_simp
  go_at_call 23
  refine (number18 base _ _ j.one.run _ (HA1.out).own HN.out.run (by have := HLA1.out; omega) (Nat.le_trans hb1 (HA1.out).up.size)).mono ?_
  rintro e w3 ⟨v2, rfl, hA⟩
  have HA2 := Lib.hid ((HA1.out).trans hA)
  have HLA2 := Lib.hid (show ((l ++ numW j.one.name) ++ numW j.one.run).length ≤ 1000000000000 + 8 from by rw [List.length_append]; have := (numW_len j.one.run).2; have := HLA1.out; omega)
  clear hA
  simp only []
  refine hK6.out _ _ ⟨up_no H0.out hb0 HA2.out.up, (HA2.out.held _ _ _ HBX.out (by decide)).trans HBX.out⟩ (fun hS => ?_)
  try simp only [putS, List.getElem_toArray, List.getElem_cons_zero, List.getElem_cons_succ]
  refine wpAnyH_ready (rs := [9]) (by kernel_rfl) (by simp) (AllReadyH.cons rfl (fun K9 hK9 => ?_) AllReadyH.nil)
  rw [if_pos (by kernel_rfl)]
  go_simp
  go_at_call 23
  refine (number18 base _ _ j.one.stage _ (HA2.out).own HN.out.stage (by have := HLA2.out; omega) (Nat.le_trans hb1 (HA2.out).up.size)).mono ?_
  rintro e w4 ⟨v3, rfl, hA⟩
  have HA3 := Lib.hid ((HA2.out).trans hA)
  have HLA3 := Lib.hid (show (((l ++ numW j.one.name) ++ numW j.one.run) ++ numW j.one.stage).length ≤ 1000000000000 + 12 from by rw [List.length_append]; have := (numW_len j.one.stage).2; have := HLA2.out; omega)
  clear hA
  simp only []
  refine hK9.out _ _ ⟨up_no H0.out hb0 HA3.out.up, (HA3.out.held _ _ _ HBX.out (by decide)).trans HBX.out⟩ (fun hS => ?_)
  try simp only [putS, List.getElem_toArray, List.getElem_cons_zero, List.getElem_cons_succ]
  refine wpAnyH_ready (rs := [12]) (by kernel_rfl) (by simp) (AllReadyH.cons rfl (fun K12 hK12 => ?_) AllReadyH.nil)
  rw [if_pos (by kernel_rfl)]
  go_simp
  go_at_call 23
  refine (number18 base _ _ j.one.when_ _ (HA3.out).own HN.out.when_ (by have := HLA3.out; omega) (Nat.le_trans hb1 (HA3.out).up.size)).mono ?_
  rintro e w5 ⟨v4, rfl, hA⟩
  have HA4 := Lib.hid ((HA3.out).trans hA)
  have HLA4 := Lib.hid (show ((((l ++ numW j.one.name) ++ numW j.one.run) ++ numW j.one.stage) ++ numW j.one.when_).length ≤ 1000000000000 + 16 from by rw [List.length_append]; have := (numW_len j.one.when_).2; have := HLA3.out; omega)
  clear hA
  simp only []
  refine hK12.out _ _ ⟨up_no H0.out hb0 HA4.out.up, (HA4.out.held _ _ _ HBX.out (by decide)).trans HBX.out⟩ (fun hS => ?_)
  try simp only [putS, List.getElem_toArray, List.getElem_cons_zero, List.getElem_cons_succ]
  refine wpAnyH_ready (rs := [15]) (by kernel_rfl) (by simp) (AllReadyH.cons rfl (fun K15 hK15 => ?_) AllReadyH.nil)
  rw [if_pos (by kernel_rfl)]
  go_simp
  go_at_call 23
  refine (number18 base _ _ j.one.weight _ (HA4.out).own HN.out.weight (by have := HLA4.out; omega) (Nat.le_trans hb1 (HA4.out).up.size)).mono ?_
  rintro e w6 ⟨v5, rfl, hA⟩
  have HA5 := Lib.hid ((HA4.out).trans hA)
  have HLA5 := Lib.hid (show (((((l ++ numW j.one.name) ++ numW j.one.run) ++ numW j.one.stage) ++ numW j.one.when_) ++ numW j.one.weight).length ≤ 1000000000000 + 20 from by rw [List.length_append]; have := (numW_len j.one.weight).2; have := HLA4.out; omega)
  clear hA
  simp only []
  refine hK15.out _ _ ⟨up_no H0.out hb0 HA5.out.up, (HA5.out.held _ _ _ HBX.out (by decide)).trans HBX.out⟩ (fun hS => ?_)
  try simp only [putS, List.getElem_toArray, List.getElem_cons_zero, List.getElem_cons_succ]
  refine takeE 16 (some 0) rfl rfl (fun w e1 => by obtain ⟨e1, e2⟩ := e1; go_simp <;> (with_reducible rfl)) hS ?_
  simp only [putS]
  refine wpAnyH_done (by kernel_rfl) ?_ _
  have HL5 := Lib.hid (show (((((l ++ numW j.one.name) ++ numW j.one.run) ++ numW j.one.stage) ++ numW j.one.when_) ++ numW j.one.weight) = l ++ bytesL [j.one.name, j.one.run, j.one.stage, j.one.when_, j.one.weight] from by simp [bytesL])
  have hA5 := HA5.out
  have hla5 := HLA5.out
  rw [HL5.out] at hA5 hla5
  obtain ⟨L5, hL5⟩ : ∃ L, l ++ bytesL [j.one.name, j.one.run, j.one.stage, j.one.when_, j.one.weight] = L := ⟨_, rfl⟩
  rw [hL5] at hA5 hla5
  have HL5E := Lib.hid hL5
  clear hL5
  have HB := Lib.hid hA5
  have bx6 := (hA5.held _ _ _ HBX.out (by decide)).trans HBX.out
  have y4 : w6.cell? ⟨w.heap.size, 4, none⟩ = some (.bool j.allow) := blkcell bx6 4 (by simp)
  clear hA5 bx6 hS q0 q1 q2 q3 q5
  generalize hal : j.allow = al at *
  go_upto_if 27 with (fail)
  go_cut [0] (fun v wx => Wrote base W1 (L5 ++ [if al = true then 1 else 0]) v wx)
  case first =>
    have hws := Nat.le_trans hb1 HB.out.up.size
    cases al with
    | true =>
      go_wp2_with (at_builtin; go_loud (refine byE.append1L rfl _ _ rfl rfl base _ L5 rfl (HB.out.own.alloc _) w6.heap.size 1 #[.int .u8 1] rfl rfl ?hrow (by show (L5.length + 1) * (1 + 1) ≤ _; omega) (by simp; omega) ?_); (case hrow => exact heap_alloc_new w6 _); intro g2 c2 w7 hown hgrow _; (have HX := Lib.hid (wrote_push HB.out hown hgrow hws)); clear hown hgrow)
      go_meet
      case rel => exact HX.out
    | false =>
      go_wp2_with (at_builtin; go_loud (refine byE.append1L rfl _ _ rfl rfl base _ L5 rfl (HB.out.own.alloc _) w6.heap.size 0 #[.int .u8 0] rfl rfl ?hrow (by show (L5.length + 1) * (1 + 1) ≤ _; omega) (by simp; omega) ?_); (case hrow => exact heap_alloc_new w6 _); intro g2 c2 w7 hown hgrow _; (have HX := Lib.hid (wrote_push HB.out hown hgrow hws)); clear hown hgrow)
      go_meet
      case rel => exact HX.out
  case rest =>
    obtain ⟨LA, hLA⟩ : ∃ LA, L5 ++ [if al = true then 1 else 0] = LA := ⟨_, rfl⟩
    have hlaA : LA.length ≤ 1000000000021 := by rw [← hLA, List.length_append]; simp; omega
    rw [hLA] at hcut
    have HLA := Lib.hid hLA
    have HC := Lib.hid hcut
    have bxc := (hcut.held _ _ _ HBX.out (by decide)).trans HBX.out
    have y6 : wc.cell? ⟨w.heap.size, 6, none⟩ = some (.slice Ar nr cr) := blkcell bxc 6 (by simp)
    clear hcut hLA bxc y4
    go_wp2_with fail
    refine (number18 base _ LA (nr : Int) wc HC.out.own ⟨by omega, by omega⟩ (by omega) (Nat.le_trans hb1 HC.out.up.size)).mono ?_
    rintro e w7 ⟨v7, rfl, hA7⟩
    have HA7 := Lib.hid (HC.out.trans hA7)
    clear hA7 y6
    go_wp2_with fail
    obtain ⟨LB, hLB⟩ : ∃ LB, LA ++ numW (nr : Int) = LB := ⟨_, rfl⟩
    have hlaB : LB.length ≤ 1000000000030 := by rw [← hLB, List.length_append]; have := (numW_len (nr : Int)).2; omega
    rw [hLB] at HA7
    have HLB := Lib.hid hLB
    clear hLB
    go_loopg [0, 5] nr (fun gk v0 v5 wr => R18At W1 base nr (fun i => LB ++ (j.rules.take i).flatMap ruleW) gk v0 v5 wr)
    case atStart => exact ⟨0, rfl, Nat.zero_le _, rfl, by simpa using HA7.out⟩
    case round =>
      obtain ⟨wo, rfl⟩ : ∃ x, x = wr := ⟨_, rfl⟩
      obtain ⟨i, hgk, hi, rfl, hW⟩ := hrel
      have HGK := Lib.hid hgk
      have HW := Lib.hid hW
      have bx := (hW.held _ _ _ HBX.out (by decide)).trans HBX.out
      have y6 : wo.cell? ⟨w.heap.size, 6, none⟩ = some (.slice Ar nr cr) := blkcell bx 6 (by simp)
      have BX := Lib.hid bx
      have H0o := Lib.hid (up_no H0.out hb0 hW.up)
      clear hgk hW bx
      by_cases hlt : i < nr
      · have hlt' : (i : Int) < (nr : Int) := by omega
        have dl : decide ((i : Int) < (nr : Int)) = true := decide_eq_true hlt'
        have hir : i < j.rules.length := by rw [HNR.out]; exact hlt
        obtain ⟨ad, hA, Ac, cc, r0, r1, hps⟩ := HR.out i hir
        subst hA
        obtain ⟨code, hcode⟩ : ∃ x, j.rules[i].1 = x := ⟨_, rfl⟩
        obtain ⟨wh, hwh⟩ : ∃ x, j.rules[i].2 = x := ⟨_, rfl⟩
        have hjm := List.getElem_mem hir
        have zc : code.length ≤ 1024 := hcode ▸ HN.out.codes _ hjm
        have zw : In28 wh := hwh ▸ HN.out.whens _ hjm
        have HSTP := Lib.hid (show ∀ x ∈ code, In28 x.1 ∧ In28 x.2 from hcode ▸ HN.out.steps _ hjm)
        have HKND := Lib.hid (show ∀ x ∈ code, OkS x from hcode ▸ (HK.out.2.1.2 _ hjm).2.2)
        rw [hcode] at r0 hps
        rw [hwh] at r1
        have HPS := Lib.hid hps
        have HRU := Lib.hid (show j.rules[i] = (code, wh) from by rw [← hcode, ← hwh])
        have hli : ((j.rules.take i).flatMap ruleW).length ≤ 8200 * 16 := flat_len_take (fun r hr => ruleW_len (HN.out.codes r hr)) (by rw [HNR.out]; exact hnr) i
        obtain ⟨LI, hLI⟩ : ∃ L, LB ++ (j.rules.take i).flatMap ruleW = L := ⟨_, rfl⟩
        have hlI : LI.length ≤ 1000000200000 := by rw [← hLI, List.length_append]; omega
        have HLI := Lib.hid hLI
        have hW2 := HW.out
        dsimp only at hW2
        rw [hLI] at hW2
        have HWI := Lib.hid hW2
        obtain ⟨nc, hnc⟩ : ∃ n, code.length = n := ⟨_, rfl⟩
        rw [hnc] at r0 zc
        have HNC := Lib.hid hnc
        clear hcode hwh hjm hps hli hLI hW2 hnc HW
        go_wp2_with fail
        refine wp_region_held_drew (S := fun w' => But No w0 w' ∧ w'.heap[w.heap.size]? = some (.cells #[.int .i64 j.one.name, .int .i64 j.one.run, .int .i64 j.one.stage, .int .i64 j.one.when_, .bool al, .int .i64 j.one.weight, .slice (some ad) nr cr, .slice Av nv cv, .slice Ap np cp] 52 (0, 0))) (by kernel_rfl) ⟨H0o.out.drew, drewH BX.out⟩ (fun hS => ?_)
        refine takeE 0 (some 46) rfl rfl (fun w e1 => by obtain ⟨e1, e2⟩ := e1; go_simp <;> (with_reducible rfl)) hS ?_
        simp only [putS]
        refine takeE 1 (some 47) rfl rfl (fun w e1 => by obtain ⟨e1, e2⟩ := e1; go_simp <;> (with_reducible rfl)) hS ?_
        simp only [putS]
        refine takeE 2 (some 48) rfl rfl (fun w e1 => by obtain ⟨e1, e2⟩ := e1; have z6 := blkcell e2 6 (by simp); simp only [List.getElem_toArray, List.getElem_cons_zero, List.getElem_cons_succ] at z6; go_simp <;> (with_reducible rfl)) hS ?_
        simp only [putS]
        refine takeE 3 (some 49) rfl rfl (fun w e1 => by obtain ⟨e1, e2⟩ := e1; go_simp <;> (with_reducible rfl)) hS ?_
        simp only [putS]
        refine takeE 4 (some 50) rfl rfl (fun w e1 => by obtain ⟨e1, e2⟩ := e1; go_simp <;> (with_reducible rfl)) hS ?_
        simp only [putS]
        refine takeE 5 (some 51) rfl rfl (fun w e1 => by obtain ⟨e1, e2⟩ := e1; go_simp <;> (with_reducible rfl)) hS ?_
        simp only [putS]
        refine takeE 6 (some 52) rfl rfl (fun w e1 => by obtain ⟨e1, e2⟩ := e1; have z := e1.cell_some r1 (fun c => c); go_simp <;> (with_reducible rfl)) hS ?_
        simp only [putS]
        refine takeE 8 (some 54) rfl rfl (fun w e1 => by obtain ⟨e1, e2⟩ := e1; go_simp <;> (with_reducible rfl)) hS ?_
        simp only [putS]
        refine takeE 9 (some 55) rfl rfl (fun w e1 => by obtain ⟨e1, e2⟩ := e1; have z6 := blkcell e2 6 (by simp); simp only [List.getElem_toArray, List.getElem_cons_zero, List.getElem_cons_succ] at z6; go_simp <;> (with_reducible rfl)) hS ?_
        simp only [putS]
        refine takeE 10 (some 56) rfl rfl (fun w e1 => by obtain ⟨e1, e2⟩ := e1; go_simp <;> (with_reducible rfl)) hS ?_
        simp only [putS]
        refine takeE 11 (some 57) rfl rfl (fun w e1 => by obtain ⟨e1, e2⟩ := e1; go_simp <;> (with_reducible rfl)) hS ?_
        simp only [putS]
        refine takeE 12 (some 58) rfl rfl (fun w e1 => by obtain ⟨e1, e2⟩ := e1; go_simp <;> (with_reducible rfl)) hS ?_
        simp only [putS]
        refine takeE 13 (some 59) rfl rfl (fun w e1 => by obtain ⟨e1, e2⟩ := e1; have z := e1.cell_some r0 (fun c => c); go_simp <;> (with_reducible rfl)) hS ?_
        simp only [putS]
        refine takeE 14 (some 60) rfl rfl (fun w e1 => by obtain ⟨e1, e2⟩ := e1; go_simp <;> (with_reducible rfl)) hS ?_
        simp only [putS]
        refine wpAnyH_ready (rs := [7]) (by kernel_rfl) (by simp) (AllReadyH.cons rfl (fun K7 hK7 => ?_) AllReadyH.nil)
        rw [if_pos (by kernel_rfl)]
        go_simp
        go_at_call 23
        refine (number18 base _ LI wh _ (HWI.out.drew).own zw (by omega) (Nat.le_trans hb1 (HWI.out.drew).up.size)).mono ?_
        rintro e wd1 ⟨vd1, rfl, hA⟩
        have HD1 := Lib.hid ((HWI.out.drew).trans hA)
        clear hA
        simp only []
        refine hK7.out _ _ ⟨up_no H0.out hb0 HD1.out.up, (HD1.out.held _ _ _ HBX.out (by decide)).trans HBX.out⟩ (fun hS => ?_)
        try simp only [putS, List.getElem_toArray, List.getElem_cons_zero, List.getElem_cons_succ]
        refine wpAnyH_ready (rs := [15]) (by kernel_rfl) (by simp) (AllReadyH.cons rfl (fun K15 hK15 => ?_) AllReadyH.nil)
        rw [if_pos (by kernel_rfl)]
        go_simp
        go_at_call 23
        refine (number18 base _ (LI ++ numW wh) (nc : Int) _ (HD1.out).own ⟨by omega, by omega⟩ (by rw [List.length_append]; have := (numW_len wh).2; omega) (Nat.le_trans hb1 (HD1.out).up.size)).mono ?_
        rintro e wd2 ⟨vd2, rfl, hA⟩
        have HD2 := Lib.hid ((HD1.out).trans hA)
        clear hA
        simp only []
        refine hK15.out _ _ ⟨up_no H0.out hb0 HD2.out.up, (HD2.out.held _ _ _ HBX.out (by decide)).trans HBX.out⟩ (fun hS => ?_)
        try simp only [putS, List.getElem_toArray, List.getElem_cons_zero, List.getElem_cons_succ]
        refine takeE 16 (some 0) rfl rfl (fun w e1 => by obtain ⟨e1, e2⟩ := e1; go_simp <;> (with_reducible rfl)) hS ?_
        simp only [putS]
        refine wpAnyH_done (by kernel_rfl) ?_ _
        have hLD0 : LI ++ numW wh ++ numW (nc : Int) = LI ++ bytesL [wh, (nc : Int)] := by simp [bytesL]
        obtain ⟨LD, hLD⟩ : ∃ L, LI ++ bytesL [wh, (nc : Int)] = L := ⟨_, rfl⟩
        have hd2 := HD2.out
        rw [hLD0, hLD] at hd2
        have HD := Lib.hid hd2
        have hlD : LD.length ≤ 1000000200010 := by rw [← hLD, List.length_append]; have := bytesL_len [wh, (nc : Int)]; simp only [List.length_cons, List.length_nil] at this; omega
        have HLD := Lib.hid hLD
        clear hLD0 hLD hd2 HD1 HD2 hS
        go_wp2_with fail
        go_loopg [0, 6] nc (fun gk v0 v6 ws => R18At W1 base nc (fun k => LD ++ (code.take k).flatMap stepW) gk v0 v6 ws)
        case atStart => exact ⟨0, rfl, Nat.zero_le _, rfl, by simpa using HD.out⟩
        case round =>
          obtain ⟨k, hgk, hk, rfl, hW⟩ := hrel
          have HGK2 := Lib.hid hgk
          have bx := (hW.held _ _ _ HBX.out (by decide)).trans HBX.out
          have y6 : wr.cell? ⟨w.heap.size, 6, none⟩ = some (.slice (some ad) nr cr) := blkcell bx 6 (by simp)
          have h0s := up_no H0.out hb0 hW.up
          have r0s := h0s.cell_some r0 (fun c => c)
          have HW2 := Lib.hid hW
          have H0S := Lib.hid h0s
          clear hgk hW bx h0s
          by_cases hkt : k < nc
          · have hkt' : (k : Int) < (nc : Int) := by omega
            have dk : decide ((k : Int) < (nc : Int)) = true := decide_eq_true hkt'
            have hkc : k < code.length := by rw [HNC.out]; exact hkt
            obtain ⟨ad2, hA2, e0, e1⟩ := HPS.out k hkc
            subst hA2
            obtain ⟨kd, hkd⟩ : ∃ x, code[k].1 = x := ⟨_, rfl⟩
            obtain ⟨tx, htx⟩ : ∃ x, code[k].2 = x := ⟨_, rfl⟩
            have hcm := List.getElem_mem hkc
            have zt : In28 tx := htx ▸ (HSTP.out _ hcm).2
            have zk := (HKND.out _ hcm).1
            rw [hkd] at e0 zk
            rw [htx] at e1
            have e0s := H0S.out.cell_some e0 (fun c => c)
            have e1s := H0S.out.cell_some e1 (fun c => c)
            have HCX := Lib.hid (show code[k] = (kd, tx) from by rw [← hkd, ← htx])
            have t8 : IntKind.u8.wrap kd = kd := by rw [IntKind.wrap_u8]; omega
            have hlk : ((code.take k).flatMap stepW).length ≤ 8 * 1024 := flat_len_take (fun x _ => stepW_len x) (by rw [HNC.out]; exact zc) k
            obtain ⟨LK, hLK⟩ : ∃ L, LD ++ (code.take k).flatMap stepW = L := ⟨_, rfl⟩
            have hlK : LK.length ≤ 1000000300000 := by rw [← hLK, List.length_append]; omega
            have hW3 := HW2.out
            dsimp only at hW3
            rw [hLK] at hW3
            have HWK := Lib.hid hW3
            have HLK := Lib.hid hLK
            have hws := Nat.le_trans hb1 hW3.up.size
            clear hkd htx hcm e0 e1 hlk hLK hW3 HW2
            go_wp2_with (at_builtin; go_loud (refine byE.append1L rfl _ _ rfl rfl base _ LK rfl ((HWK.out.own.alloc _).alloc _) (wr.heap.size + 1) kd #[.int .u8 kd] rfl rfl ?hrow (by show (LK.length + 1) * (1 + 1) ≤ _; omega) (by simp; omega) ?_); (case hrow => exact blkb wr _ _); intro g2 c2 w8 hown hgrow _; (have bt8 := grow_block hgrow (typed_own ((HWK.out.own.alloc _).alloc _)) (blkold (heap_alloc_new wr _) _) (by decide)); (have u0 : w8.cell? ⟨wr.heap.size, 0, none⟩ = some (.int .i64 kd) := blkcell bt8 0 (by simp)); (have u1 : w8.cell? ⟨wr.heap.size, 1, none⟩ = some (.int .i64 tx) := blkcell bt8 1 (by simp)); (have HX := Lib.hid (wrote_push (HWK.out.alloc _) hown hgrow (by simp; omega))); clear hown hgrow bt8)
            refine (named0 kd w8).mono ?_
            rintro e w9 ⟨rfl, rfl⟩
            have htk : LD ++ (code.take (k + 1)).flatMap stepW = LK ++ stepW (kd, tx) := by
              rw [List.take_succ_eq_append_getElem hkc, List.flatMap_append, ← List.append_assoc, HLK.out, HCX.out]
              simp
            have hst : stepW (kd, tx) = [kd] ++ (if saysB kd = true then numW tx else []) := by
              unfold stepW
              have e1 : bytesL [kd] = [kd] := by simp [bytesL, numW_1 (show kd < 128 by omega)]
              have e2 : bytesL [tx] = numW tx := by simp [bytesL]
              rw [e1, e2]
            by_cases hs : saysB kd = true
            · rw [hs]
              rw [if_pos hs] at hst
              have HTK := Lib.hid (htk.trans (by rw [hst, ← List.append_assoc] : LK ++ stepW (kd, tx) = LK ++ [kd] ++ numW tx))
              clear htk hst hs
              go_wp2_with fail
              refine (number18 base _ (LK ++ [kd]) tx _ HX.out.own zt (by rw [List.length_append]; simp; omega) (Nat.le_trans hb1 HX.out.up.size)).mono ?_
              rintro e w10 ⟨v10, rfl, hA⟩
              have HY := Lib.hid (HX.out.trans hA)
              clear hA
              go_wp2_with fail
              go_roundg (nc - (k + 1))
              case measure => rw [HGK2.out]; omega
              case rel => exact ⟨k + 1, rfl, by omega, by go_num, by show Wrote base W1 (LD ++ (code.take (k + 1)).flatMap stepW) _ _; rw [HTK.out]; exact HY.out⟩
            · have hs' : saysB kd = false := by simpa using hs
              rw [hs']
              rw [if_neg hs, List.append_nil] at hst
              have HTK := Lib.hid (htk.trans (by rw [hst] : LK ++ stepW (kd, tx) = LK ++ [kd]))
              clear htk hst hs hs'
              go_wp2_with fail
              go_roundg (nc - (k + 1))
              case measure => rw [HGK2.out]; omega
              case rel => exact ⟨k + 1, rfl, by omega, by go_num, by show Wrote base W1 (LD ++ (code.take (k + 1)).flatMap stepW) _ _; rw [HTK.out]; exact HX.out⟩
          · have hke : k = nc := by omega
            have hkt' : ¬ (k : Int) < (nc : Int) := by omega
            have dk : decide ((k : Int) < (nc : Int)) = false := decide_eq_false hkt'
            have hfin : LB ++ (j.rules.take (i + 1)).flatMap ruleW = LD ++ (code.take k).flatMap stepW := by
              rw [List.take_succ_eq_append_getElem hir, List.flatMap_append, ← List.append_assoc, HLI.out, HRU.out, hke, ← HNC.out, List.take_length, ← HLD.out]
              simp [ruleW, HNC.out]
            have HF := Lib.hid hfin
            clear hke hfin
            go_wp2_with fail
            go_roundg (nr - (i + 1))
            case measure => rw [HGK.out]; omega
            case rel => exact ⟨i + 1, rfl, by omega, by go_num, by show Wrote base W1 (LB ++ (j.rules.take (i + 1)).flatMap ruleW) _ _; rw [HF.out]; exact HW2.out⟩
      · have hie : i = nr := by omega
        have hlt' : ¬ (i : Int) < (nr : Int) := by omega
        have dl : decide ((i : Int) < (nr : Int)) = false := decide_eq_false hlt'
        obtain ⟨LR, hLR⟩ : ∃ L, LB ++ j.rules.flatMap ruleW = L := ⟨_, rfl⟩
        have hlR : LR.length ≤ 1000000400000 := by
          have := flat_len (f := ruleW) (B := 8200) j.rules (fun r hr => ruleW_len (HN.out.codes r hr))
          have h2 := HNR.out
          rw [← hLR, List.length_append]
          omega
        have hW2 := HW.out
        dsimp only at hW2
        rw [hie, ← HNR.out, List.take_length, hLR] at hW2
        have HWR := Lib.hid hW2
        have HLR := Lib.hid hLR
        have y7 : wo.cell? ⟨w.heap.size, 7, none⟩ = some (.slice Av nv cv) := blkcell BX.out 7 (by simp)
        clear hie hLR hW2 HW
        go_wp2_with fail
        refine (number18 base _ LR (nv : Int) wo HWR.out.own ⟨by omega, by omega⟩ (by omega) (Nat.le_trans hb1 HWR.out.up.size)).mono ?_
        rintro e wv ⟨vv0, rfl, hA⟩
        obtain ⟨LV, hLV⟩ : ∃ L, LR ++ numW (nv : Int) = L := ⟨_, rfl⟩
        have hlV : LV.length ≤ 1000000400010 := by rw [← hLV, List.length_append]; have := (numW_len (nv : Int)).2; omega
        rw [hLV] at hA
        have HWV := Lib.hid (HWR.out.trans hA)
        have HLV := Lib.hid hLV
        clear hA hLV y7 HWR
        go_wp2_with fail
        go_loopg [0, 8] nv (fun gk v0 v8 wr => R18At W1 base nv (fun i => LV ++ (j.vars.take i).flatMap varW) gk v0 v8 wr)
        case atStart => exact ⟨0, rfl, Nat.zero_le _, rfl, by simpa using HWV.out⟩
        case round =>
          obtain ⟨wo2, rfl⟩ : ∃ x, x = wr := ⟨_, rfl⟩
          obtain ⟨i2, hgk2, hi2, rfl, hW⟩ := hrel
          have HGKV := Lib.hid hgk2
          have HW := Lib.hid hW
          have bx := (hW.held _ _ _ HBX.out (by decide)).trans HBX.out
          have y7 : wo2.cell? ⟨w.heap.size, 7, none⟩ = some (.slice Av nv cv) := blkcell bx 7 (by simp)
          have BX2 := Lib.hid bx
          have H0o2 := Lib.hid (up_no H0.out hb0 hW.up)
          clear hgk2 hW bx
          by_cases hlt : i2 < nv
          · have hlt' : (i2 : Int) < (nv : Int) := by omega
            have dl : decide ((i2 : Int) < (nv : Int)) = true := decide_eq_true hlt'
            have hiv : i2 < j.vars.length := by rw [HNV.out]; exact hlt
            obtain ⟨adv, hA, f0, f1⟩ := HV.out i2 hiv
            subst hA
            obtain ⟨va, hva⟩ : ∃ x, j.vars[i2].1 = x := ⟨_, rfl⟩
            obtain ⟨vb, hvb⟩ : ∃ x, j.vars[i2].2 = x := ⟨_, rfl⟩
            have hnm := HN.out.names _ (List.getElem_mem hiv)
            rw [hva, hvb] at hnm
            have za := hnm.1
            have zb := hnm.2
            rw [hva] at f0
            rw [hvb] at f1
            have HVX := Lib.hid (show j.vars[i2] = (va, vb) from by rw [← hva, ← hvb])
            have hlv : ((j.vars.take i2).flatMap varW).length ≤ 8 * 256 := flat_len_take (fun x _ => varW_len x) (by rw [HNV.out]; exact hnv) i2
            obtain ⟨LI2, hLI2⟩ : ∃ L, LV ++ (j.vars.take i2).flatMap varW = L := ⟨_, rfl⟩
            have hlI2 : LI2.length ≤ 1000000500000 := by rw [← hLI2, List.length_append]; omega
            have hW2 := HW.out
            dsimp only at hW2
            rw [hLI2] at hW2
            have HWI2 := Lib.hid hW2
            have HLI2 := Lib.hid hLI2
            clear hva hvb hnm hlv hLI2 hW2 HW
            go_wp2_with fail
            refine wp_region_held_drew (S := fun w' => But No w0 w' ∧ w'.heap[w.heap.size]? = some (.cells #[.int .i64 j.one.name, .int .i64 j.one.run, .int .i64 j.one.stage, .int .i64 j.one.when_, .bool al, .int .i64 j.one.weight, .slice Ar nr cr, .slice (some adv) nv cv, .slice Ap np cp] 52 (0, 0))) (by kernel_rfl) ⟨H0o2.out.drew, drewH BX2.out⟩ (fun hS => ?_)
            refine takeE 0 (some 107) rfl rfl (fun w e1 => by obtain ⟨e1, e2⟩ := e1; go_simp <;> (with_reducible rfl)) hS ?_
            simp only [putS]
            refine takeE 1 (some 108) rfl rfl (fun w e1 => by obtain ⟨e1, e2⟩ := e1; go_simp <;> (with_reducible rfl)) hS ?_
            simp only [putS]
            refine takeE 2 (some 109) rfl rfl (fun w e1 => by obtain ⟨e1, e2⟩ := e1; have z7 := blkcell e2 7 (by simp); simp only [List.getElem_toArray, List.getElem_cons_zero, List.getElem_cons_succ] at z7; go_simp <;> (with_reducible rfl)) hS ?_
            simp only [putS]
            refine takeE 3 (some 110) rfl rfl (fun w e1 => by obtain ⟨e1, e2⟩ := e1; go_simp <;> (with_reducible rfl)) hS ?_
            simp only [putS]
            refine takeE 4 (some 111) rfl rfl (fun w e1 => by obtain ⟨e1, e2⟩ := e1; go_simp <;> (with_reducible rfl)) hS ?_
            simp only [putS]
            refine takeE 5 (some 112) rfl rfl (fun w e1 => by obtain ⟨e1, e2⟩ := e1; go_simp <;> (with_reducible rfl)) hS ?_
            simp only [putS]
            refine takeE 6 (some 113) rfl rfl (fun w e1 => by obtain ⟨e1, e2⟩ := e1; have z := e1.cell_some f0 (fun c => c); go_simp <;> (with_reducible rfl)) hS ?_
            simp only [putS]
            refine takeE 8 (some 115) rfl rfl (fun w e1 => by obtain ⟨e1, e2⟩ := e1; go_simp <;> (with_reducible rfl)) hS ?_
            simp only [putS]
            refine takeE 9 (some 116) rfl rfl (fun w e1 => by obtain ⟨e1, e2⟩ := e1; have z7 := blkcell e2 7 (by simp); simp only [List.getElem_toArray, List.getElem_cons_zero, List.getElem_cons_succ] at z7; go_simp <;> (with_reducible rfl)) hS ?_
            simp only [putS]
            refine takeE 10 (some 117) rfl rfl (fun w e1 => by obtain ⟨e1, e2⟩ := e1; go_simp <;> (with_reducible rfl)) hS ?_
            simp only [putS]
            refine takeE 11 (some 118) rfl rfl (fun w e1 => by obtain ⟨e1, e2⟩ := e1; go_simp <;> (with_reducible rfl)) hS ?_
            simp only [putS]
            refine takeE 12 (some 119) rfl rfl (fun w e1 => by obtain ⟨e1, e2⟩ := e1; go_simp <;> (with_reducible rfl)) hS ?_
            simp only [putS]
            refine takeE 13 (some 120) rfl rfl (fun w e1 => by obtain ⟨e1, e2⟩ := e1; have z := e1.cell_some f1 (fun c => c); go_simp <;> (with_reducible rfl)) hS ?_
            simp only [putS]
            refine wpAnyH_ready (rs := [7]) (by kernel_rfl) (by simp) (AllReadyH.cons rfl (fun K7 hK7 => ?_) AllReadyH.nil)
            rw [if_pos (by kernel_rfl)]
            go_simp
            go_at_call 23
            refine (number18 base _ LI2 va _ (HWI2.out.drew).own za (by omega) (Nat.le_trans hb1 (HWI2.out.drew).up.size)).mono ?_
            rintro e we1 ⟨ve1, rfl, hA⟩
            have HE1 := Lib.hid ((HWI2.out.drew).trans hA)
            clear hA
            simp only []
            refine hK7.out _ _ ⟨up_no H0.out hb0 HE1.out.up, (HE1.out.held _ _ _ HBX.out (by decide)).trans HBX.out⟩ (fun hS => ?_)
            try simp only [putS, List.getElem_toArray, List.getElem_cons_zero, List.getElem_cons_succ]
            refine wpAnyH_ready (rs := [14]) (by kernel_rfl) (by simp) (AllReadyH.cons rfl (fun K14 hK14 => ?_) AllReadyH.nil)
            rw [if_pos (by kernel_rfl)]
            go_simp
            go_at_call 23
            refine (number18 base _ (LI2 ++ numW va) vb _ (HE1.out).own zb (by rw [List.length_append]; have := (numW_len va).2; omega) (Nat.le_trans hb1 (HE1.out).up.size)).mono ?_
            rintro e we2 ⟨ve2, rfl, hA⟩
            have HE2 := Lib.hid ((HE1.out).trans hA)
            clear hA
            simp only []
            refine hK14.out _ _ ⟨up_no H0.out hb0 HE2.out.up, (HE2.out.held _ _ _ HBX.out (by decide)).trans HBX.out⟩ (fun hS => ?_)
            try simp only [putS, List.getElem_toArray, List.getElem_cons_zero, List.getElem_cons_succ]
            refine takeE 15 (some 0) rfl rfl (fun w e1 => by obtain ⟨e1, e2⟩ := e1; go_simp <;> (with_reducible rfl)) hS ?_
            simp only [putS]
            refine wpAnyH_done (by kernel_rfl) ?_ _
            have hfin : LV ++ (j.vars.take (i2 + 1)).flatMap varW = LI2 ++ numW va ++ numW vb := by
              rw [List.take_succ_eq_append_getElem hiv, List.flatMap_append, ← List.append_assoc, HLI2.out, HVX.out]
              simp [varW, bytesL]
            have HF := Lib.hid hfin
            clear hfin hS
            go_wp2_with fail
            go_roundg (nv - (i2 + 1))
            case measure => rw [HGKV.out]; omega
            case rel => exact ⟨i2 + 1, rfl, by omega, by go_num, by show Wrote base W1 (LV ++ (j.vars.take (i2 + 1)).flatMap varW) _ _; rw [HF.out]; exact HE2.out⟩
          · have hie : i2 = nv := by omega
            have hlt' : ¬ (i2 : Int) < (nv : Int) := by omega
            have dl : decide ((i2 : Int) < (nv : Int)) = false := decide_eq_false hlt'
            obtain ⟨LU, hLU⟩ : ∃ L, LV ++ j.vars.flatMap varW = L := ⟨_, rfl⟩
            have hlU : LU.length ≤ 1000000500000 := by
              have := flat_len (f := varW) (B := 8) j.vars (fun x _ => varW_len x)
              have h2 := HNV.out
              rw [← hLU, List.length_append]
              omega
            have hW2 := HW.out
            dsimp only at hW2
            rw [hie, ← HNV.out, List.take_length, hLU] at hW2
            have HWU := Lib.hid hW2
            have HLU := Lib.hid hLU
            have y8 : wo2.cell? ⟨w.heap.size, 8, none⟩ = some (.slice Ap np cp) := blkcell BX2.out 8 (by simp)
            clear hie hLU hW2 HW
            go_wp2_with fail
            refine (number18 base _ LU (np : Int) wo2 HWU.out.own ⟨by omega, by omega⟩ (by omega) (Nat.le_trans hb1 HWU.out.up.size)).mono ?_
            rintro e wp ⟨vp0, rfl, hA⟩
            obtain ⟨LP, hLP⟩ : ∃ L, LU ++ numW (np : Int) = L := ⟨_, rfl⟩
            have hlP : LP.length ≤ 1000000500010 := by rw [← hLP, List.length_append]; have := (numW_len (np : Int)).2; omega
            rw [hLP] at hA
            have HWP := Lib.hid (HWU.out.trans hA)
            have HLP := Lib.hid hLP
            clear hA hLP y8 HWU
            go_wp2_with fail
            go_loopg [0, 9] np (fun gk v0 v9 wr => R18At W1 base np (fun i => LP ++ bytesL (j.preds.take i)) gk v0 v9 wr)
            case atStart => exact ⟨0, rfl, Nat.zero_le _, rfl, by simpa [bytesL] using HWP.out⟩
            case round =>
              obtain ⟨i3, hgk3, hi3, rfl, hW⟩ := hrel
              have HGKP := Lib.hid hgk3
              have HW := Lib.hid hW
              have bx := (hW.held _ _ _ HBX.out (by decide)).trans HBX.out
              have y8 : wr.cell? ⟨w.heap.size, 8, none⟩ = some (.slice Ap np cp) := blkcell bx 8 (by simp)
              have h0r := up_no H0.out hb0 hW.up
              by_cases hlt : i3 < np
              · have hlt' : (i3 : Int) < (np : Int) := by omega
                have dl : decide ((i3 : Int) < (np : Int)) = true := decide_eq_true hlt'
                have hip : i3 < j.preds.length := by rw [HNP.out]; exact hlt
                obtain ⟨adp, hA, f0⟩ := HP.out i3 hip
                subst hA
                obtain ⟨pa, hpa⟩ : ∃ x, j.preds[i3] = x := ⟨_, rfl⟩
                have za := HN.out.froms _ (List.getElem_mem hip)
                rw [hpa] at f0 za
                have f0' := h0r.cell_some f0 (fun c => c)
                have hlp : (bytesL (j.preds.take i3)).length ≤ 4 * 256 := by
                  have := bytesL_len (j.preds.take i3)
                  rw [List.length_take] at this
                  omega
                have hfin : LP ++ bytesL (j.preds.take (i3 + 1)) = LP ++ bytesL (j.preds.take i3) ++ numW pa := by rw [bytesL_take hip, hpa, List.append_assoc]
                have HF := Lib.hid hfin
                have hlen : (LP ++ bytesL (j.preds.take i3)).length ≤ 1000000600000 := by rw [List.length_append]; omega
                have HLEN := Lib.hid hlen
                clear hgk3 hW bx h0r hpa hlp hfin hlen f0 hip
                go_wp2_with fail
                refine (number18 base _ (LP ++ bytesL (j.preds.take i3)) pa wr HW.out.own za (by have := HLEN.out; omega) (Nat.le_trans hb1 HW.out.up.size)).mono ?_
                rintro e wq ⟨vq, rfl, hA⟩
                have HY := Lib.hid ((HW.out : Wrote base W1 (LP ++ bytesL (j.preds.take i3)) _ _).trans hA)
                clear hA
                go_wp2_with fail
                go_roundg (np - (i3 + 1))
                case measure => rw [HGKP.out]; omega
                case rel => exact ⟨i3 + 1, rfl, by omega, by go_num, by show Wrote base W1 (LP ++ bytesL (j.preds.take (i3 + 1))) _ _; rw [HF.out]; exact HY.out⟩
              · have hie : i3 = np := by omega
                have hlt' : ¬ (i3 : Int) < (np : Int) := by omega
                have dl : decide ((i3 : Int) < (np : Int)) = false := decide_eq_false hlt'
                have hW2 : Wrote base W1 (LP ++ bytesL (j.preds.take i3)) _ _ := HW.out
                rw [hie, ← HNP.out, List.take_length] at hW2
                have hall : LP ++ bytesL j.preds = l ++ jobW j := by
                  rw [← HLP.out, ← HLU.out, ← HLV.out, ← HLR.out, ← HLB.out, ← HLA.out, ← HL5E.out, ← HNR.out, ← HNV.out, ← HNP.out, ← hal]
                  have e1 : numW (if j.allow = true then 1 else 0) = [if j.allow = true then 1 else 0] := numW_1 (by split <;> decide)
                  simp [jobW, bytesL, e1]
                rw [hall] at hW2
                have HF := Lib.hid (HW0.out.trans hW2)
                clear hgk3 hW bx h0r hie hW2 hall hal
                go_wp2_with fail
                go_ret
                exact ⟨_, rfl, HF.out⟩
end Go.Proofs.Ytoaopjbgaehpfaa.G
