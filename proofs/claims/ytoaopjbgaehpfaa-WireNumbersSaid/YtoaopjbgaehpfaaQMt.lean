/- Texts of this claim, joined: words and laws that the others use. -/
import Derived.Test.YtoaopjbgaehpfaaQMp
section
/- WireCuts: walked. -/
namespace Go.Proofs.Ytoaopjbgaehpfaa.G
open Go.RowKit
attribute [local simp, local go_sem] alloc_drewN setCell_drewN
set_option linter.unusedVariables false
set_option linter.unusedSimpArgs false
set_option maxRecDepth 100000
theorem xorB {x y : Int} (hx : 0 ≤ x ∧ x < 256) (hy : 0 ≤ y ∧ y < 256) : (0 ≤ bits .xor .u8 x y ∧ bits .xor .u8 x y < 256) ∧ (bits .xor .u8 x y = x → y = 0) := by
  obtain ⟨a, rfl⟩ : ∃ a : Nat, x = (a : Int) := ⟨x.toNat, by omega⟩
  obtain ⟨b, rfl⟩ : ∃ b : Nat, y = (b : Int) := ⟨y.toNat, by omega⟩
  have ha : (BitVec.ofInt IntKind.u8.bits (a : Int)).toNat = a := by
    show (BitVec.ofInt 8 (a : Int)).toNat = a
    rw [BitVec.toNat_ofInt]
    omega
  have hb : (BitVec.ofInt IntKind.u8.bits (b : Int)).toNat = b := by
    show (BitVec.ofInt 8 (b : Int)).toNat = b
    rw [BitVec.toNat_ofInt]
    omega
  have hlt : a ^^^ b < 2 ^ 8 := Nat.xor_lt_two_pow (by omega) (by omega)
  have e : bits .xor .u8 (a : Int) (b : Int) = ((a ^^^ b : Nat) : Int) := by
    unfold bits
    dsimp only
    rw [BitVec.toNat_xor, ha, hb, IntKind.wrap_u8]
    omega
  rw [e]
  refine ⟨by omega, fun h => ?_⟩
  have h1 : a ^^^ b = a := by omega
  have h2 : a ^^^ (a ^^^ b) = a ^^^ a := by rw [h1]
  rw [← Nat.xor_assoc, Nat.xor_self, Nat.zero_xor] at h2
  omega
theorem copyBytesN (A : Option Addr) (c n : Nat) (l : List Int) (w : World) (hn : l.length = n) (h : byE.Lies w A l) (hl : n * 1 ≤ 140737488355328) :
    Calls Try.prog 18 #[.slice A n c] w fun e w' => ∃ A' c', e = .returned (.slice A' n c') ∧ byE.Own w' w.heap.size (.slice A' n c') l ∧ But No w w' := by
  subst hn
  refine (copyBytes0 A c l w h hl).mono ?_
  rintro e w' ⟨v, rfl, hv, hb⟩
  obtain ⟨A', c', rfl⟩ := hv.slice
  exact ⟨A', c', rfl, hv, hb⟩
theorem lies_take {w : World} {A : Option Addr} {l : List Int} (h : byE.Lies w A l) (i : Nat) : byE.Lies w A (l.take i) := fun hne => by
  obtain ⟨ad, hA, k⟩ := h (fun e => hne (by rw [e, List.take_nil]))
  refine ⟨ad, hA, fun j u hj => k j u ?_⟩
  rw [byts_cells_map, List.map_take, List.getElem?_take] at hj
  rw [byts_cells_map]
  split at hj
  · exact hj
  · cases hj
theorem bytes_take {bs : List Int} (h : Bytes bs) (i : Nat) : Bytes (bs.take i) := ⟨by rw [List.length_take]; have := h.len; omega, fun b hb => h.rng b (List.mem_of_mem_take hb)⟩
theorem own_set_byte {w : World} {base g n c : Nat} {l : List Int} (h : byE.Own w base (.slice (some ⟨g, 0, none⟩) n c) l) (i : Nat) (x : Int) : byE.Own (w.setCell ⟨g, i, none⟩ (.int .u8 x)) base (.slice (some ⟨g, 0, none⟩) n c) (l.set i x) := by
  rcases h with ⟨hl, ⟨hv, h0⟩ | ⟨g', cap, cur, hv, hg, hh, hc, hm, hcs, ht⟩⟩
  · cases hv
  · injection hv with hA hB hC
    injection hA with hA
    injection hA with hA
    subst hA hC
    refine ⟨byE.cells_length _, .inr ⟨g, c, cur.setIfInBounds i (.int .u8 x), by rw [hB, List.length_set], hg, blkset hh i _, by rw [List.length_set]; exact hc, hm, by rw [Array.size_setIfInBounds]; exact hcs, ?_⟩⟩
    rw [byts_cells_map] at ht ⊢
    rw [List.length_set, Array.toList_setIfInBounds, List.map_set, ← ht, List.take_set]
theorem bytes_set {bs : List Int} (h : Bytes bs) (i : Nat) {x : Int} (hx : 0 ≤ x ∧ x < 256) : Bytes (bs.set i x) := ⟨by rw [List.length_set]; exact h.len, fun b hb => by
  rcases List.mem_or_eq_of_mem_set hb with hb | rfl
  · exact h.rng b hb
  · exact hx⟩
theorem dec_inl {bs : List Int} {c : Int} {a : Nat} (h : planR bs = .inl (c, a)) : decPlan bs = none ∧ decErr bs = c := by
  unfold decPlan decErr
  rw [h]
  exact ⟨rfl, rfl⟩
theorem decodeN {A : Option Addr} {cp n base : Nat} {bs : List Int} {w : World} (hn : bs.length = n) (h : byE.Own w base (.slice A n cp) bs) (hB : Bytes bs) :
    Calls Try.prog 17 #[.slice A n cp] w (DecPost bs w) := by
  subst hn
  exact decode0 (own_bytes h hB).1
theorem DecPost.no {bs : List Int} {w w' : World} {e : Ending} (h : DecPost bs w e w') (hd : decPlan bs = none) : But No w w' ∧ e = .returned (.tuple #[.agg #[.slice none 0 0, .slice none 0 0], .int .i64 (decCount bs), .int .i64 (decErr bs)]) := by
  refine ⟨h.1, ?_⟩
  have h2 := h.2
  rw [hd] at h2
  exact h2
def CutAt (W0 : World) (n : Nat) (gk : Nat) (v : Value) (wr : World) : Prop := ∃ i : Nat, gk = n - i ∧ i ≤ n ∧ v = .int .i64 (i : Int) ∧ But No W0 wr
set_option maxHeartbeats 8000000 in
theorem wireCuts0 {w : World} {At Aj : Option Addr} {ts : List ByteArray} {js : List JobP} (ct cj : Nat) (h : PlanIn w At ts Aj js) (hr : PlanRoom ts js) {Am : Option Addr} {cm : Nat} {ms : List Int} (hm : byE.Lies w Am ms) (hmB : Bytes ms) (hml : ms.length ≤ 1048576) (y : Int) (hy : 0 ≤ y ∧ y < 256) :
    Calls Try.prog 6 #[.agg #[.slice At ts.length ct, .slice Aj js.length cj], .slice Am ms.length cm, .int .u8 y] w fun e w' => e = .returned (.bool true) ∧ But No w w' := by
  have HR := Lib.hid hr
  have HLENS := Lib.hid h.lens
  have hW0 := ((But.refl No w).alloc (.cells #[.slice At ts.length ct, .slice Aj js.length cj] 25))
  have HPI := Lib.hid (h.but hW0)
  have HM := Lib.hid (hm.but hW0)
  have hx := heap_alloc_new w (.cells #[.slice At ts.length ct, .slice Aj js.length cj] 25)
  have q0 := blkcell hx 0 (by simp)
  have q1 := blkcell hx 1 (by simp)
  simp only [List.getElem_toArray, List.getElem_cons_zero, List.getElem_cons_succ] at q0 q1
  have HB0 := Lib.hid hW0
  obtain ⟨nm, hnm⟩ : ∃ n, ms.length = n := ⟨_, rfl⟩
  have HNM := Lib.hid hnm
  rw [hnm] at hml ⊢
  clear h hr hW0 hx hm hnm
  go_enter Try.func6, Try.ntmps6
  go_wp2_with fail
  generalize (w.alloc (.cells #[.slice At ts.length ct, .slice Aj js.length cj] 25)) = W0 at *
  refine (copyPlan0 ct cj HPI.out HR.out).mono ?_
  rintro e w1 ⟨hb1, A1, c1, B1, d1, rfl, hpl1⟩
  have HP1 := Lib.hid (hpl1.inAs HLENS.out)
  have HB1 := Lib.hid (HB0.out.trans hb1)
  have HPIa := Lib.hid (HPI.out.but hb1)
  have HM1 := Lib.hid (HM.out.but hb1)
  have q0 := hb1.cell_some q0 (fun c => c)
  have q1 := hb1.cell_some q1 (fun c => c)
  clear hb1 hpl1
  go_wp2_with fail
  refine (enc_any c1 d1 HP1.out).mono ?_
  rintro e w2 ⟨hb2, he2⟩
  have HB2 := Lib.hid (HB1.out.trans hb2)
  have HPIb := Lib.hid (HPIa.out.but hb2)
  have HM2 := Lib.hid (HM1.out.but hb2)
  have q0 := hb2.cell_some q0 (fun c => c)
  have q1 := hb2.cell_some q1 (fun c => c)
  clear hb2
  rcases he2 with ⟨hok, A2, c2, rfl, hown⟩ | ⟨hok, rfl⟩
  case inr =>
    clear hok
    go_wp2_with fail
    refine (awake0 _).mono ?_
    rintro e w5 ⟨rfl, hb5⟩
    have HB5 := Lib.hid (HB2.out.trans hb5)
    clear hb5
    go_wp2_with fail
    go_ret
    exact ⟨rfl, HB5.out⟩
  have HW := Lib.hid (okW_of hok)
  have hz := planW_small hok
  have HBY := Lib.hid (planW_bytes HW.out (by omega))
  have HDEC := Lib.hid (show ∀ i (x : Int), i < (planW ts js).length → (planW ts js).getD i 0 ≠ x → ∀ ts' js', decPlan ((planW ts js).set i x) = some (ts', js') → Bytes ((planW ts js).set i x) → ¬ (ts' = ts ∧ js' = js) from by
    rintro i x hi hne ts' js' hd hB ⟨rfl, rfl⟩
    obtain ⟨⟨a, hp⟩, _⟩ := decPlan_some hd
    obtain ⟨_, hs⟩ := plan_strict hB hp
    have := congrArg (fun l => l.getD i 0) hs
    simp only [List.getD_eq_getElem?_getD] at this hne
    rw [List.getElem?_set_self hi] at this
    exact hne this.symm)
  have HCUT := Lib.hid (fun i (hi : i < (planW ts js).length) => dec_inl (plan_cut HW.out hi).choose_spec)
  have HMORE := Lib.hid (fun (hne : ms ≠ []) => dec_inl (plan_more HW.out hne).choose_spec)
  have hpos : 0 < (planW ts js).length := by
    unfold planW
    simp only [List.length_append, List.length_cons, List.length_nil]
    omega
  clear hok
  generalize planW ts js = p1 at *
  obtain ⟨g, c2', hv2, hg1, hg2, hcap, hcap2⟩ := hown.lit hpos
  injection hv2 with hA hB hC
  subst hA hC
  obtain ⟨n, hn⟩ : ∃ n, p1.length = n := ⟨_, rfl⟩
  rw [hn] at hcap hpos hz hown
  rw [hn]
  have HN := Lib.hid hn
  have HO := Lib.hid hown
  have hcapI : (n : Int) ≤ (c2 : Int) := by omega
  clear hown hn hB
  by_cases h400 : 400 < n
  · have d400 : decide ((400 : Int) < (n : Int)) = true := decide_eq_true (by omega)
    have d400' : (400 : Int) < (n : Int) := by omega
    go_wp2_with fail
    refine (awake0 _).mono ?_
    rintro e w5 ⟨rfl, hb5⟩
    have HB5 := Lib.hid (HB2.out.trans hb5)
    clear hb5
    go_wp2_with fail
    go_ret
    exact ⟨rfl, HB5.out⟩
  have d400 : decide ((400 : Int) < (n : Int)) = false := decide_eq_false (by omega)
  have d400' : ¬ (400 : Int) < (n : Int) := by omega
  go_wp2_with fail
  go_loopg [9] n (fun gk v wr => CutAt w2 n gk v wr)
  case atStart => exact ⟨0, rfl, Nat.zero_le _, rfl, But.refl _ _⟩
  case round =>
    obtain ⟨i, hgk, hi, rfl, hbr⟩ := hrel
    have HGK := Lib.hid hgk
    have HBR := Lib.hid hbr
    have HOr := Lib.hid (HO.out.new hbr)
    clear hgk hbr
    by_cases hlt : i < n
    · have hlt' : (i : Int) < (n : Int) := by omega
      have dl : decide ((i : Int) < (n : Int)) = true := decide_eq_true hlt'
      have hic : i ≤ c2 := by omega
      have hti : (p1.take i).length = i := by rw [List.length_take, HN.out]; omega
      have HTI := Lib.hid hti
      have HCi := Lib.hid (HCUT.out i (by rw [HN.out]; exact hlt))
      clear hti
      go_wp2_with fail
      refine (copyBytesN (some ⟨g, 0, none⟩) c2 i (p1.take i) wr HTI.out (lies_take HOr.out.lies i) (by omega)).mono ?_
      rintro e w3 ⟨A3, c3, rfl, hv3, hb3⟩
      have HO3 := Lib.hid hv3
      have HB3 := Lib.hid (HBR.out.trans hb3)
      clear hb3 hv3
      go_wp2_with fail
      refine (decodeN HTI.out HO3.out (bytes_take HBY.out i)).mono ?_
      rintro e w4 hd4
      obtain ⟨hb4, rfl⟩ := hd4.no HCi.out.1
      rw [HCi.out.2]
      obtain ⟨N, hN⟩ : ∃ N, decCount (p1.take i) = N := ⟨_, rfl⟩
      rw [hN]
      have HB4 := Lib.hid ((HB3.out.trans hb4).alloc (.cells #[.slice none 0 0, .slice none 0 0] 25))
      clear hb4 hd4 hN HO3 HTI
      by_cases hy0 : y = 0
      · subst hy0
        go_wp2_with fail
        go_roundg (n - (i + 1))
        case measure => rw [HGK.out]; omega
        case rel => exact ⟨i + 1, rfl, by omega, by go_num, HB4.out⟩
      · have dy : (y != 0) = true := by simpa using hy0
        have HY0 := Lib.hid hy0
        have HOw := Lib.hid (HO.out.new HB4.out)
        clear hy0
        go_wp2_with fail
        refine (copyBytesN (some ⟨g, 0, none⟩) c2 n p1 _ HN.out HOw.out.lies (by omega)).mono ?_
        rintro e w5 ⟨A5, c5, rfl, hv5, hb5⟩
        obtain ⟨g5, c5', hv5e, hg5a, hg5b, hcap5, hcap5b⟩ := hv5.lit (by rw [HN.out]; exact hpos)
        injection hv5e with hA5 hB5 hC5
        subst hA5 hC5
        clear hB5
        rw [HN.out] at hcap5
        have hip : i < p1.length := by rw [HN.out]; exact hlt
        have hig5 := hv5.cell i p1[i] (List.getElem?_eq_getElem (by rw [HN.out]; exact hlt)) 0 (.int .u8 p1[i]) rfl
        rw [show i * byE.sz + 0 = i from by show i * 1 + 0 = i; omega] at hig5
        obtain ⟨x, hx⟩ : ∃ x, p1[i] = x := ⟨_, rfl⟩
        rw [hx] at hig5
        obtain ⟨_, _, cs5, hblk5⟩ := El.typed hv5 g5 rfl
        have hf5 : ∀ i, w5.frozen? ⟨g5, i, none⟩ = false := blkfree hblk5
        have hxr := HBY.out.rng p1[i] (List.getElem_mem (by rw [HN.out]; exact hlt))
        rw [hx] at hxr
        obtain ⟨z, hz5⟩ : ∃ z, bits .xor .u8 x y = z := ⟨_, rfl⟩
        have hxo := xorB hxr hy
        rw [hz5] at hxo
        have HXO := Lib.hid hxo
        have hgd : p1.getD i 0 = x := by rw [List.getD_eq_getElem?_getD, List.getElem?_eq_getElem (by rw [HN.out]; exact hlt)]; exact hx
        have hBz := bytes_set HBY.out i hxo.1
        have hDz := HDEC.out i z (by rw [HN.out]; exact hlt) (by rw [hgd]; exact fun e => HY0.out (hxo.2 e.symm))
        have HDZ := Lib.hid hDz
        have HBZ := Lib.hid hBz
        have hi5 : (i : Int) < (n : Int) := hlt'
        have hw25 : w2.heap.size ≤ w5.heap.size := (HB4.out.trans hb5).size
        have hg52 : w2.heap.size ≤ g5 := Nat.le_trans HB4.out.size (by exact hg5a)
        have HOz := Lib.hid (own_set_byte hv5 i z)
        have HB5 := Lib.hid ((HB4.out.trans hb5).setCell (p := ⟨g5, i, none⟩) (.inr hg52) (.int .u8 z))
        have hlz : (p1.set i z).length = n := by rw [List.length_set]; exact HN.out
        have HLZ := Lib.hid hlz
        clear hb5 hv5 hblk5 hxr hxo hgd hBz hDz hlz hx HOw hip
        go_wp2_with fail
        refine (decodeN HLZ.out HOz.out HBZ.out).mono ?_
        rintro e w6 ⟨hb6, hp6⟩
        have HB6 := Lib.hid (HB5.out.trans hb6)
        cases hd : decPlan (p1.set i z) with
        | none =>
          rw [hd] at hp6
          have hp6' : e = .returned (.tuple #[.agg #[.slice none 0 0, .slice none 0 0], .int .i64 (decCount (p1.set i z)), .int .i64 (decErr (p1.set i z))]) := hp6
          subst hp6'
          have hne := decErr_none hd
          obtain ⟨E, hE⟩ : ∃ E, decErr (p1.set i z) = E := ⟨_, rfl⟩
          obtain ⟨N6, hN6⟩ : ∃ N, decCount (p1.set i z) = N := ⟨_, rfl⟩
          rw [hE] at hne ⊢
          rw [hN6]
          have dE : (E == 0) = false := by simpa using hne
          have HB7 := Lib.hid (HB6.out.alloc (.cells #[.slice none 0 0, .slice none 0 0] 25))
          clear hp6 hd hb6 hE hN6
          go_wp2_with fail
          go_roundg (n - (i + 1))
          case measure => rw [HGK.out]; omega
          case rel => exact ⟨i + 1, rfl, by omega, by go_num, HB7.out⟩
        | some pp =>
          obtain ⟨ts', js'⟩ := pp
          rw [hd] at hp6
          obtain ⟨A6, c6, B6, d6, he, hpl6⟩ := hp6
          subst he
          have hnot := HDZ.out ts' js' hd HBZ.out
          obtain ⟨_, hok6⟩ := decPlan_some hd
          obtain ⟨N6, hN6⟩ : ∃ N, decCount (p1.set i z) = N := ⟨_, rfl⟩
          rw [hN6]
          have hb7 := (But.refl No w6).alloc (.cells #[.slice A6 ts'.length c6, .slice B6 js'.length d6] 25)
          have HB7 := Lib.hid (HB6.out.trans hb7)
          have HP7 := Lib.hid ((hpl6.inAs (okP_lens hok6)).but hb7)
          have HPI7 := Lib.hid (HPIb.out.but HB7.out)
          have q0' := HB7.out.cell_some q0 (fun c => c)
          have q1' := HB7.out.cell_some q1 (fun c => c)
          have r0 : (w6.alloc (.cells #[.slice A6 ts'.length c6, .slice B6 js'.length d6] 25)).cell? ⟨w6.heap.size, 0, none⟩ = some (.slice A6 ts'.length c6) := blkcell (heap_alloc_new w6 _) 0 (by simp)
          have r1 : (w6.alloc (.cells #[.slice A6 ts'.length c6, .slice B6 js'.length d6] 25)).cell? ⟨w6.heap.size, 1, none⟩ = some (.slice B6 js'.length d6) := blkcell (heap_alloc_new w6 _) 1 (by simp)
          have HNOT := Lib.hid hnot
          clear hpl6 hd hb6 hN6 hok6 hb7 hnot
          go_wp2_with fail
          obtain ⟨g6, hg6⟩ : ∃ g, w6.heap.size = g := ⟨_, rfl⟩
          rw [hg6] at r0 r1 ⊢
          generalize w6.alloc (.cells #[.slice A6 ts'.length c6, .slice B6 js'.length d6] 25) = W6 at *
          refine (samePlan0 c6 d6 ct cj HP7.out HPI7.out).mono ?_
          rintro e w7 ⟨b, rfl, hbt, hb7⟩
          have hbf : b = false := by
            cases b with
            | false => rfl
            | true =>
              obtain ⟨e1, e2⟩ := hbt.1 rfl
              exact absurd ⟨e1, e2⟩ HNOT.out
          subst hbf
          have HB8 := Lib.hid (HB7.out.trans hb7)
          clear hbt hb7
          go_wp2_with fail
          go_roundg (n - (i + 1))
          case measure => rw [HGK.out]; omega
          case rel => exact ⟨i + 1, rfl, by omega, by go_num, HB8.out⟩
    · have hie : i = n := by omega
      have hlt' : ¬ (i : Int) < (n : Int) := by omega
      have dl : decide ((i : Int) < (n : Int)) = false := decide_eq_false hlt'
      by_cases hm0 : nm = 0
      · subst hm0
        go_wp2_with fail
        refine (awake0 _).mono ?_
        rintro e w5 ⟨rfl, hb5⟩
        have HB5 := Lib.hid ((HB2.out.trans HBR.out).trans hb5)
        clear hb5
        go_wp2_with fail
        go_ret
        exact ⟨rfl, HB5.out⟩
      · have dm : decide ((0 : Int) < (nm : Int)) = true := decide_eq_true (by omega)
        have dm' : (0 : Int) < (nm : Int) := by omega
        have hmne : ms ≠ [] := fun e => hm0 (by rw [← HNM.out, e]; rfl)
        have HMO := Lib.hid (HMORE.out hmne)
        obtain ⟨ad, hAd, hmc⟩ := (HM2.out.but HBR.out) hmne
        subst hAd
        have HMC := Lib.hid hmc
        clear hmc hmne
        go_wp2_with fail
        refine (copyBytesN (some ⟨g, 0, none⟩) c2 n p1 wr HN.out HOr.out.lies (by omega)).mono ?_
        rintro e w5 ⟨A5, c5, rfl, hv5, hb5⟩
        have HB5 := Lib.hid ((HB2.out.trans HBR.out).trans hb5)
        have HV5 := Lib.hid hv5
        have HMC5 := Lib.hid (fun j u hj => hb5.cell_some (HMC.out j u hj) (fun c => c))
        have hs5 := hb5.size
        have hBall : Bytes (p1 ++ ms) := ⟨by rw [List.length_append, HN.out, HNM.out]; omega, bytes_app HBY.out.rng hmB.rng⟩
        have HBALL := Lib.hid hBall
        have hlall : (p1 ++ ms).length = n + nm := by rw [List.length_append, HN.out, HNM.out]
        have HLALL := Lib.hid hlall
        clear hb5 hv5 hBall hlall
        go_wp2_with (at_builtin; refine byE.append rfl _ _ rfl rfl wr.heap.size (.slice A5 n c5) p1 rfl HV5.out ad nm cm ms HNM.out (by omega) rfl (fun j u hj => HMC5.out j u hj) (by show (p1.length + nm) * (1 + 1) ≤ _; rw [HN.out]; omega) hs5 ?_; intro g2 c7 w6 hown hgrow; rw [HN.out] at hown)
        have HB6 := Lib.hid (El.Own.grown (E := byE) HB5.out HV5.out hgrow (by have := HB5.out.size; have := (HB2.out.trans HBR.out).size; omega))
        have HO6 := Lib.hid hown
        clear hown hgrow
        rw [HN.out]
        refine (decodeN HLALL.out HO6.out HBALL.out).mono ?_
        rintro e w7 hd7
        obtain ⟨hb7, rfl⟩ := hd7.no HMO.out.1
        rw [HMO.out.2]
        obtain ⟨N7, hN7⟩ : ∃ N, decCount (p1 ++ ms) = N := ⟨_, rfl⟩
        rw [hN7]
        have HB7 := Lib.hid ((HB6.out.trans hb7).alloc (.cells #[.slice none 0 0, .slice none 0 0] 25))
        clear hb7 hd7 hN7
        go_wp2_with fail
        refine (awake0 _).mono ?_
        rintro e w8 ⟨rfl, hb8⟩
        have HB8 := Lib.hid (HB7.out.trans hb8)
        clear hb8
        go_wp2_with fail
        go_ret
        exact ⟨rfl, HB8.out⟩
end Go.Proofs.Ytoaopjbgaehpfaa.G
end
section
/- WireCuts, as its row wants it. -/
namespace Go.Proofs.Ytoaopjbgaehpfaa.G
open Go.RowKit
set_option linter.unusedVariables false
set_option linter.unusedSimpArgs false
set_option maxRecDepth 100000
theorem byte_wf {b : Int} (h : (Lit.int .u8 b).wf = true) : 0 ≤ b ∧ b < 256 := by
  simp [Lit.wf, IntKind.min, IntKind.max, IntKind.signed, IntKind.bits] at h
  omega
theorem oBytesU : OpensKU Try.prog 26 (seesSlice (seesInt .u8) 1) (fun bs => Bytes bs ∧ bs.length ≤ 1048576) :=
  OpensKU.mono (opensK_sliceU Try.underlying26 (opensK_intU Try.underlying5) cel5) fun bs h => ⟨⟨by have := h.2; omega, fun b hb => byte_wf (h.1 b hb)⟩, h.2⟩
theorem oByteU : OpensKU Try.prog 5 (seesInt .u8) (fun n => 0 ≤ n ∧ n < 256) :=
  OpensKU.mono (opensK_intU Try.underlying5) fun n h => byte_wf h
theorem wireCutsR (W : World) (x : List ByteArray × List JobP) (v : Value) (hv : ∃ cs, v = .agg cs ∧ cs.size = Try.prog.cellsOf 25) (hK : seesPlan W x v.cells.toList) (hb : PlanU x)
    (x1 : List Int) (v1 : Value) (hv1 : ∃ a len cap, v1 = .slice a len cap) (hK1 : seesSlice (seesInt .u8) 1 W x1 v1.cells.toList) (hb1 : Bytes x1 ∧ x1.length ≤ 1048576)
    (x2 : Int) (v2 : Value) (hv2 : ∃ n, v2 = .int .u8 n) (hK2 : seesInt .u8 W x2 v2.cells.toList) (hb2 : 0 ≤ x2 ∧ x2 < 256) :
    Calls Try.prog 6 #[v, v1, v2] W fun e W' => e = .returned (.bool true) ∧ Below W.heap.size W W' := by
  obtain ⟨At, ct, Aj, cj, rfl, h1⟩ := seen_plan hv hK hb
  obtain ⟨A, n, c, rfl⟩ := hv1
  obtain ⟨A', c', e1, _, _, hL⟩ := seen_bytes hK1
  simp [Value.cells] at e1
  obtain ⟨rfl, rfl, rfl⟩ := e1
  obtain ⟨m, rfl⟩ := hv2
  have e2 : [Value.int .u8 m] = [.int .u8 x2] := hK2
  injection e2 with e2
  injection e2 with _ e2
  subst e2
  exact (wireCuts0 ct cj h1 (planU_room hb) hL hb1.1 hb1.2 m hb2).mono fun e W' h => ⟨h.1, h.2.belowNo⟩
end Go.Proofs.Ytoaopjbgaehpfaa.G
end
