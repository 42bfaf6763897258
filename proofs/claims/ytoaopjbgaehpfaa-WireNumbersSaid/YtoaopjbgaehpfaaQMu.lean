/- Texts of this claim, joined: words and laws that the others use. -/
import Derived.Test.YtoaopjbgaehpfaaQMt
import Derived.Test.YtoaopjbgaehpfaaQGk
section
/- WireNumbers: plain. -/
namespace Go.Proofs.Ytoaopjbgaehpfaa.G
open Go.RowKit
attribute [local simp, local go_sem] alloc_drewN setCell_drewN
set_option linter.unusedVariables false
set_option linter.unusedSimpArgs false
set_option maxRecDepth 100000
/-- The law's texts: two bytes each, rising. -/
def numT (k : Nat) : ByteArray := strOfNums [((1 + k / 200 : Nat) : Int), ((1 + k % 200 : Nat) : Int)]
def numTs (n : Nat) : List ByteArray := (List.range n).map numT
theorem numTs_len (n : Nat) : (numTs n).length = n := by simp [numTs]
theorem numT_size (k : Nat) : (numT k).size = 2 := by unfold numT; rw [strOfNums_size]; rfl
theorem numTs_get {n k : Nat} (h : k < n) : (numTs n).getD k .empty = numT k := by
  rw [List.getD_eq_getElem?_getD, List.getElem?_eq_getElem (by rw [numTs_len]; exact h)]
  simp [numTs]
theorem numTs_succ (n : Nat) : numTs (n + 1) = numTs n ++ [numT n] := by simp [numTs, List.range_succ]
theorem numT_list (k : Nat) : (numT k).toList = [UInt8.ofNat (1 + k / 200), UInt8.ofNat (1 + k % 200)] := by
  rw [ByteArray.toList_eq]
  unfold numT
  rw [strOfNums_data]
  rfl
theorem rise_all : ∀ k : Fin 299, (Op.bytesLess [UInt8.ofNat (1 + (k.val + 1) / 200), UInt8.ofNat (1 + (k.val + 1) % 200)] [UInt8.ofNat (1 + k.val / 200), UInt8.ofNat (1 + k.val % 200)] || [UInt8.ofNat (1 + (k.val + 1) / 200), UInt8.ofNat (1 + (k.val + 1) % 200)] == [UInt8.ofNat (1 + k.val / 200), UInt8.ofNat (1 + k.val % 200)]) = false := by decide +kernel
theorem num_rise {k : Nat} (h : k < 299) : leB (numT (k + 1)) (numT k) = false := by
  unfold leB
  rw [numT_list, numT_list]
  exact rise_all ⟨k, h⟩
theorem okW_num {n : Nat} (h : n < 300) : OkW (numTs n) [] := by
  refine ⟨⟨by rw [numTs_len]; omega, fun s hs => ?_⟩, by decide, fun j hj => absurd hj List.not_mem_nil⟩
  obtain ⟨k, _, rfl⟩ := List.mem_map.1 hs
  show (numT k).size < _
  rw [numT_size]
  decide
theorem flat_two (n : Nat) : ((numTs n).flatMap textW).length = 3 * n := by
  induction n with
  | zero => rfl
  | succ n ih =>
    rw [numTs_succ, List.flatMap_append, List.length_append, ih]
    have : ([numT n].flatMap textW).length = 3 := by
      rw [List.flatMap_cons, List.flatMap_nil, List.append_nil]
      unfold textW
      rw [List.length_append, byts_len, numT_size]
      rfl
    omega
theorem planW_num (n : Nat) : planW (numTs n) [] = headL ++ (numW (n : Int) ++ ((numTs n).flatMap textW ++ [0])) := by
  unfold planW
  rw [numTs_len]
  simp [bytesL, headL, numW]
theorem planW_num_len (n : Nat) : (planW (numTs n) []).length = 6 + 3 * n + (numW (n : Int)).length := by
  rw [planW_num, List.length_append, List.length_append, List.length_append, flat_two]
  simp only [headL, List.length_cons, List.length_nil]
  omega
theorem okP_num {n : Nat} (h : n < 300) : okP (numTs n) [] = true := by
  have hr : risesB (numTs n) = true := by
    unfold risesB
    rw [List.all_eq_true, numTs_len]
    intro k hk
    have hk := List.mem_range.1 hk
    unfold txtB
    rw [numTs_get hk, numT_size]
    cases k with
    | zero => rfl
    | succ k =>
      rw [show k + 1 - 1 = k from rfl, numTs_get (by omega), num_rise (by omega)]
      simp
  have ht : textsC (numTs n) 0 = 0 := by
    unfold textsC
    rw [if_pos (by unfold manyB; rw [numTs_len]; simp; omega), if_pos hr]
  unfold okP
  rw [Bool.and_eq_true, decide_eq_true_eq, decide_eq_true_eq]
  constructor
  · unfold partsC
    rw [show ([] : List JobP).length = 0 from rfl, if_pos ht]
    rfl
  · rw [sizeP_len (okW_num h), planW_num_len]
    have := numW_len (n : Int)
    omega
/-- The number, one byte longer than it should be. -/
def longW (n : Nat) : List Int := if n < 128 then [(n : Int) + 128, 0] else [((n % 128 : Nat) : Int) + 128, ((n / 128 : Nat) : Int) + 128, 0]
theorem long_read {n : Nat} (h : n < 300) (rest : List Int) : ∃ b, planR (headL ++ (longW n ++ rest)) = .inl (182, b) := by
  have hh : headR (headL ++ (longW n ++ rest)) headL 0 = .inr ((), 0 + headL.length) := (headCC headL).reads (x := ()) (Nat.zero_le _) trivial ⟨_, rfl⟩
  obtain ⟨b, hb⟩ : ∃ b, numberR (headL ++ (longW n ++ rest)) (0 + headL.length) = .inl (182, b) := by
    unfold numberR longW
    by_cases c : n < 128
    · rw [if_pos c]
      refine ⟨7, ?_⟩
      have e0 : (headL ++ ([(n : Int) + 128, 0] ++ rest)).getD 5 0 = (n : Int) + 128 := rfl
      have e1 : (headL ++ ([(n : Int) + 128, 0] ++ rest)).getD 6 0 = 0 := rfl
      have l0 : 5 < (headL ++ ([(n : Int) + 128, 0] ++ rest)).length := by simp [headL]
      have l1 : 6 < (headL ++ ([(n : Int) + 128, 0] ++ rest)).length := by simp [headL]
      rw [show 0 + headL.length = 5 from rfl, numR_succ, if_pos l0, e0, if_neg (by omega), numR_succ, if_pos l1, e1, if_pos (by decide), if_pos ⟨rfl, by decide⟩]
    · rw [if_neg c]
      refine ⟨8, ?_⟩
      have e0 : (headL ++ ([((n % 128 : Nat) : Int) + 128, ((n / 128 : Nat) : Int) + 128, 0] ++ rest)).getD 5 0 = ((n % 128 : Nat) : Int) + 128 := rfl
      have e1 : (headL ++ ([((n % 128 : Nat) : Int) + 128, ((n / 128 : Nat) : Int) + 128, 0] ++ rest)).getD 6 0 = ((n / 128 : Nat) : Int) + 128 := rfl
      have e2 : (headL ++ ([((n % 128 : Nat) : Int) + 128, ((n / 128 : Nat) : Int) + 128, 0] ++ rest)).getD 7 0 = 0 := rfl
      have l0 : 5 < (headL ++ ([((n % 128 : Nat) : Int) + 128, ((n / 128 : Nat) : Int) + 128, 0] ++ rest)).length := by simp [headL]
      have l1 : 6 < (headL ++ ([((n % 128 : Nat) : Int) + 128, ((n / 128 : Nat) : Int) + 128, 0] ++ rest)).length := by simp [headL]
      have l2 : 7 < (headL ++ ([((n % 128 : Nat) : Int) + 128, ((n / 128 : Nat) : Int) + 128, 0] ++ rest)).length := by simp [headL]
      rw [show 0 + headL.length = 5 from rfl, numR_succ, if_pos l0, e0, if_neg (by omega), numR_succ, if_pos l1, e1, if_neg (by omega), numR_succ, if_pos l2, e2, if_pos (by decide), if_pos ⟨rfl, by decide⟩]
  refine ⟨b, ?_⟩
  unfold planR
  rw [hh]
  show rbind (rowsR _ _ _) _ = _
  unfold rowsR
  rw [hb]
  rfl
theorem copyPlanN {w : World} {At Aj : Option Addr} {ts : List ByteArray} {js : List JobP} {nt nj : Nat} (ct cj : Nat) (hn : ts.length = nt) (hj : js.length = nj) (h : PlanIn w At ts Aj js) (hz : PlanRoom ts js) :
    Calls Try.prog 11 #[.agg #[.slice At nt ct, .slice Aj nj cj]] w fun e w' => But No w w' ∧ ∃ At' ct' Aj' cj', e = .returned (.agg #[.slice At' nt ct', .slice Aj' nj cj']) ∧ PlanIn w' At' ts Aj' js := by
  subst hn hj
  refine (copyPlan0 ct cj h hz).mono ?_
  rintro e w' ⟨hb, A, c, B, d, rfl, hpl⟩
  exact ⟨hb, A, c, B, d, rfl, hpl.inAs h.lens⟩
theorem encN {w : World} {At Aj : Option Addr} {ts : List ByteArray} {js : List JobP} {nt nj m : Nat} {p : List Int} (ct cj : Nat) (hn : ts.length = nt) (hj : js.length = nj) (h : PlanIn w At ts Aj js) (hok : okP ts js = true) (hp : planW ts js = p) (hm : p.length = m) :
    Calls Try.prog 12 #[.agg #[.slice At nt ct, .slice Aj nj cj]] w fun e w' => But No w w' ∧ ∃ A c, e = .returned (.tuple #[.slice A m c, .int .i64 0]) ∧ byE.Own w' w.heap.size (.slice A m c) p := by
  subst hn hj hp hm
  refine (enc_ok ct cj h hok).mono ?_
  rintro e w' ⟨v, rfl, hv, hb⟩
  obtain ⟨A, c, rfl⟩ := hv.slice
  exact ⟨But.of_below hb, A, c, rfl, hv⟩
theorem orB8 {x : Int} (hx : 0 ≤ x ∧ x < 128) : bits .or .u8 x 128 = x + 128 := by
  have h1 : ∀ k : Fin 128, bits .or .u8 ((k.val : Nat) : Int) 128 = ((k.val : Nat) : Int) + 128 := by decide
  have h2 := h1 ⟨x.toNat, by omega⟩
  rw [show (((⟨x.toNat, by omega⟩ : Fin 128).val : Nat) : Int) = x from by show ((x.toNat : Nat) : Int) = _; omega] at h2
  exact h2
/-- The last byte of the number, and what becomes of the bytes. -/
theorem long_bytes {n s : Nat} (hn : n < 300) (hs : s = if n < 128 then 1 else 2) : ∃ x : Int, (0 ≤ x ∧ x < 128) ∧ (planW (numTs n) [])[4 + s]? = some x ∧ ((((planW (numTs n) []).take (5 + s)).set (4 + s) (x + 128)) ++ [0]) ++ (planW (numTs n) []).drop (5 + s) = headL ++ (longW n ++ ((numTs n).flatMap textW ++ [0])) := by
  rw [planW_num]
  generalize (numTs n).flatMap textW ++ [0] = rest
  unfold longW numW
  by_cases c : n < 128
  · rw [if_pos c] at hs
    subst hs
    rw [if_pos (show (n : Int) < 128 by omega), if_pos c]
    exact ⟨(n : Int), ⟨by omega, by omega⟩, rfl, rfl⟩
  · rw [if_neg c] at hs
    subst hs
    rw [if_neg (show ¬ (n : Int) < 128 by omega), if_pos (show (n : Int) < 16384 by omega), if_neg c]
    refine ⟨(n : Int) / 128, ⟨by omega, by omega⟩, rfl, ?_⟩
    have e1 : ((n % 128 : Nat) : Int) = (n : Int) % 128 := by omega
    have e2 : ((n / 128 : Nat) : Int) = (n : Int) / 128 := by omega
    rw [e1, e2]
    rfl
def NumbAt (w : World) (g : Nat) (n : Nat) (gk : Nat) (v : Value) (wr : World) : Prop := ∃ i : Nat, gk = n - i ∧ i ≤ n ∧ v = .int .i64 (i : Int) ∧ But No w wr ∧ ∃ vt, wr.heap[g]? = some (.cells #[vt, .slice none 0 0] 25 (0, 0)) ∧ sgE.Own wr w.heap.size vt (numTs i)
theorem lowB (x : Int) : 0 ≤ bits .and .i64 x 9223372036854775807 := by
  unfold bits
  dsimp only
  rw [BitVec.toNat_and]
  have h1 : (BitVec.ofInt IntKind.i64.bits (9223372036854775807 : Int)).toNat = 9223372036854775807 := by decide
  rw [h1]
  have h2 : (BitVec.ofInt IntKind.i64.bits x).toNat &&& 9223372036854775807 ≤ 9223372036854775807 := Nat.and_le_right
  rw [IntKind.wrap_i64]
  omega
theorem low0 (x : Int) (w : World) : Calls Try.prog 20 #[.int .i64 x] w fun e w' => e = .returned (.int .i64 (bits .and .i64 x 9223372036854775807)) ∧ w' = w := by
  go_enter Try.func20, Try.ntmps20
  go_wp2_with fail
  go_ret
  exact ⟨rfl, rfl⟩
set_option maxHeartbeats 8000000 in
theorem wireNumbers0 (x : Int) (w : World) : Calls Try.prog 7 #[.int .i64 x] w fun e w' => e = .returned (.bool true) ∧ But No w w' := by
  obtain ⟨L, hL⟩ : ∃ L, bits .and .i64 x 9223372036854775807 = L := ⟨_, rfl⟩
  have hL0 : 0 ≤ L := hL ▸ lowB x
  obtain ⟨n, hn⟩ : ∃ n : Nat, L.tmod 300 = (n : Int) := ⟨(L.tmod 300).toNat, by rw [Int.tmod_eq_emod_of_nonneg hL0]; omega⟩
  have hn3 : n < 300 := by rw [Int.tmod_eq_emod_of_nonneg hL0] at hn; omega
  have HL := Lib.hid hL
  have HLn := Lib.hid hn
  clear hL hn hL0
  go_enter Try.func7, Try.ntmps7
  go_wp2_with fail
  refine (low0 x w).mono ?_
  rintro e w1 ⟨rfl, rfl⟩
  rw [HL.out]
  go_wp2_with fail
  rw [HLn.out]
  go_loopg [5] n (fun gk v wr => NumbAt w1 w1.heap.size n gk v wr)
  case atStart => exact ⟨0, rfl, Nat.zero_le _, rfl, (But.refl No w1).alloc _, .slice none 0 0, heap_alloc_new w1 _, El.own_nil _ _⟩
  case round =>
    obtain ⟨i, hgk, hi, rfl, hb, vt, hbx, hown⟩ := hrel
    obtain ⟨A0, c0, hvt⟩ := hown.slice
    rw [numTs_len] at hvt
    subst hvt
    have HGK := Lib.hid hgk
    have HB := Lib.hid hb
    have HBX := Lib.hid hbx
    have HO := Lib.hid hown
    have p0 : wr.cell? ⟨w1.heap.size, 0, none⟩ = some (.slice A0 i c0) := blkcell hbx 0 (by simp)
    have p1 : wr.cell? ⟨w1.heap.size, 1, none⟩ = some (.slice none 0 0) := blkcell hbx 1 (by simp)
    have hgl := lt_of_block hbx
    clear hgk hb hbx hown
    by_cases hlt : i < n
    · have hlt' : (i : Int) < (n : Int) := by omega
      have dl : decide ((i : Int) < (n : Int)) = true := decide_eq_true hlt'
      have hcv : (convert 26 9 (.slice (some ⟨wr.heap.size, 0, none⟩) 2 2)).run Try.prog (wr.alloc (.cells #[.int .u8 (1 + (i : Int) / 200), .int .u8 (1 + (i : Int) % 200)] 5)) = .ok (.string (numT i)) (wr.alloc (.cells #[.int .u8 (1 + (i : Int) / 200), .int .u8 (1 + (i : Int) % 200)] 5)) := by
        have e : numT i = strOfNums [1 + (i : Int) / 200, 1 + (i : Int) % 200] := by unfold numT; congr 1
        rw [e]
        refine run_convert_bytes_arg _ 26 5 Try.underlying26 Try.underlying5 wr.heap.size 0 2 2 _ rfl (fun j hj => ?_) 9 Try.underlying9
        rw [cell_of_row _ _ _ _ _ _ (heap_alloc_new wr _)]
        have : j = 0 ∨ j = 1 := by omega
        rcases this with rfl | rfl <;> rfl
      go_wp2_with (at_builtin; refine sgE.append rfl _ _ rfl rfl w1.heap.size (.slice A0 i c0) (numTs i) rfl ((HO.out.alloc _).alloc _) ⟨wr.heap.size + 1, 0, none⟩ 1 1 [numT i] rfl (by omega) rfl (sgE.cells_new (blkb wr _ _) rfl) (by show ((numTs i).length + 1) * (16 + 1) ≤ _; rw [numTs_len]; omega) (by simp; omega) ?_; intro g2 c2 w6 hown hgrow; (have bg6 := grow_block hgrow (typed_own ((HO.out.alloc _).alloc _)) (blkold (blkold HBX.out _) _) (by decide)); (have q6 : w6.cell? ⟨w1.heap.size, 0, none⟩ = some (.slice A0 i c0) := blkcell bg6 0 (by simp)); (have qf : ∀ i, w6.frozen? ⟨w1.heap.size, i, none⟩ = false := blkfree bg6); (have BG6 := Lib.hid bg6); (have HOWN := Lib.hid hown); (have HGROW := Lib.hid hgrow); clear bg6 hown hgrow)
      have hB6 := El.Own.grown (E := sgE) ((HB.out.alloc (.cells #[.int .u8 (1 + (i : Int) / 200), .int .u8 (1 + (i : Int) % 200)] 5)).alloc (.cells #[.string (numT i)] 9)) ((HO.out.alloc _).alloc _) HGROW.out (Nat.le_refl _)
      have hbx := blkset BG6.out 0 (.slice (some ⟨g2, 0, none⟩) (i + 1) c2)
      have hX : NumbAt w1 w1.heap.size n (n - (i + 1)) (.int .i64 ((i + 1 : Nat) : Int)) (w6.setCell ⟨w1.heap.size, 0, none⟩ (.slice (some ⟨g2, 0, none⟩) (i + 1) c2)) := by
        refine ⟨i + 1, rfl, by omega, rfl, hB6.setCell (p := ⟨w1.heap.size, 0, none⟩) (.inr (Nat.le_refl _)) _, .slice (some ⟨g2, 0, none⟩) (i + 1) c2, by simpa using hbx, ?_⟩
        have h := HOWN.out
        rw [numTs_len, ← numTs_succ] at h
        exact own_far h (p := ⟨w1.heap.size, 0, none⟩) BG6.out (by decide) _
      have HX := Lib.hid hX
      clear hB6 hbx hX
      rw [numTs_len]
      go_roundg (n - (i + 1))
      case measure => rw [HGK.out]; omega
      case rel =>
        obtain ⟨i', h1, h2, h3, h4⟩ := HX.out
        exact ⟨i + 1, rfl, by omega, by go_num, by
          have e : i' = i + 1 := by injection h3 with _ h3; omega
          subst e
          exact h4⟩
    · have hie : i = n := by omega
      subst hie
      have hlt' : ¬ (i : Int) < (i : Int) := by omega
      have dl : decide ((i : Int) < (i : Int)) = false := decide_eq_false hlt'
      obtain ⟨s, hs⟩ : ∃ s, s = if i < 128 then 1 else 2 := ⟨_, rfl⟩
      obtain ⟨xb, hxb, hget, hall⟩ := long_bytes hn3 hs
      obtain ⟨m, hm⟩ : ∃ m, (planW (numTs i) []).length = m := ⟨_, rfl⟩
      have hm' : m = 6 + 3 * i + s := by
        rw [← hm, planW_num_len, hs]
        unfold numW
        by_cases c : i < 128
        · rw [if_pos c, if_pos (show (i : Int) < 128 by omega)]; rfl
        · rw [if_neg c, if_neg (show ¬ (i : Int) < 128 by omega), if_pos (show (i : Int) < 16384 by omega)]; rfl
      have hs12 : (i < 128 ∧ s = 1) ∨ (¬ i < 128 ∧ s = 2) := by
        by_cases c : i < 128
        · rw [if_pos c] at hs; exact .inl ⟨c, hs⟩
        · rw [if_neg c] at hs; exact .inr ⟨c, hs⟩
      obtain ⟨bE, hbE⟩ := long_read hn3 ((numTs i).flatMap textW ++ [0])
      have HDN := Lib.hid (dec_inl hbE)
      have HPI := Lib.hid (show PlanIn wr A0 (numTs i) none [] from ⟨(own_strs HO.out).2, fun k hk => absurd hk (Nat.not_lt_zero k), by rw [numTs_len]; omega, by decide, fun t ht => by have := (okW_num hn3).1.2 t ht; have h' : t.size < 268435456 := this; omega, fun j hj => absurd hj List.not_mem_nil⟩)
      have HBY := Lib.hid (planW_bytes (okW_num hn3) (by omega))
      have HOK := Lib.hid (okP_num hn3)
      have HRM := Lib.hid (okP_room (okP_num hn3))
      obtain ⟨p, hp⟩ : ∃ p, planW (numTs i) [] = p := ⟨_, rfl⟩
      have HPW := Lib.hid hp
      rw [hp] at hget hall hm HBY
      have HGET := Lib.hid hget
      have HALL := Lib.hid hall
      have HM := Lib.hid hm
      have HTL := Lib.hid (numTs_len i)
      have hXB := Lib.hid hxb
      have HMM := Lib.hid hm'
      have hmlt : m ≤ 100000 := by omega
      have hm0 : 0 < m := by omega
      have hsm5 : 5 + s ≤ m := by omega
      clear hget hall hm hp hbE hs hxb hm'
      go_wp2_with fail
      refine (copyPlanN c0 0 HTL.out rfl HPI.out HRM.out).mono ?_
      rintro e w2 ⟨hb2, A2, c2, B2, d2, rfl, hpi2⟩
      have HB2 := Lib.hid (HB.out.trans hb2)
      have HPI2 := Lib.hid hpi2
      clear hb2 hpi2
      go_wp2_with fail
      refine (encN c2 d2 HTL.out rfl HPI2.out HOK.out HPW.out HM.out).mono ?_
      rintro e w3 ⟨hb3, A3, c3, rfl, hv3⟩
      obtain ⟨g, c3', hv3e, hg1, hg2, hcap, hcap2⟩ := hv3.lit (by rw [HM.out]; exact hm0)
      injection hv3e with hA hB hC
      subst hA hC
      clear hB
      rw [HM.out] at hcap
      have HB3 := Lib.hid (HB2.out.trans hb3)
      have HV3 := Lib.hid hv3
      clear hb3 hv3
      go_upto_region 8 with (fail)
      go_cut [59] (fun v wc => v = .bool false ∧ w3 = wc)
      case first =>
        have hq3 : (i : Int) / 128 = 0 ∨ (i : Int) / 128 = 1 ∨ (i : Int) / 128 = 2 := by omega
        have e3 : IntKind.i64.wrap (3 * (i : Int)) = 3 * (i : Int) := by rw [IntKind.wrap_i64]; omega
        have e4 : IntKind.i64.wrap (6 + 3 * (i : Int)) = 6 + 3 * (i : Int) := by rw [IntKind.wrap_i64]; omega
        have e5 : IntKind.i64.wrap (6 + 3 * (i : Int) + 1) = 6 + 3 * (i : Int) + 1 := by rw [IntKind.wrap_i64]; omega
        have e6 : IntKind.i64.wrap (6 + 3 * (i : Int) + 1 + 1) = 6 + 3 * (i : Int) + 1 + 1 := by rw [IntKind.wrap_i64]; omega
        rcases hq3 with hq | hq | hq
        · have hsm : ((m : Int) != 6 + 3 * (i : Int) + 1) = false := by have := HMM.out; simp; omega
          go_wp2_with fail
          go_meet
          case rel => exact ⟨rfl, rfl⟩
        · have hsm : ((m : Int) != 6 + 3 * (i : Int) + 1 + 1) = false := by have := HMM.out; simp; omega
          go_wp2_with fail
          go_meet
          case rel => exact ⟨rfl, rfl⟩
        · have hsm : ((m : Int) != 6 + 3 * (i : Int) + 1 + 1) = false := by have := HMM.out; simp; omega
          go_wp2_with fail
          go_meet
          case rel => exact ⟨rfl, rfl⟩
      case rest =>
        obtain ⟨rfl, rfl⟩ := hcut
        go_upto_if 61 with (fail)
        go_cut [8] (fun v wc => v = .int .i64 (s : Int) ∧ w3 = wc)
        case first =>
          rcases hs12 with ⟨h1, h2⟩ | ⟨h1, h2⟩
          · subst h2
            have d127 : decide ((127 : Int) < (i : Int)) = false := decide_eq_false (by omega)
            have d127' : ¬ (127 : Int) < (i : Int) := by omega
            go_wp2_with fail
            go_meet
            case rel => exact ⟨rfl, rfl⟩
          · subst h2
            have d127 : decide ((127 : Int) < (i : Int)) = true := decide_eq_true (by omega)
            have d127' : (127 : Int) < (i : Int) := by omega
            go_wp2_with fail
            go_meet
            case rel => exact ⟨rfl, rfl⟩
        case rest =>
          obtain ⟨rfl, rfl⟩ := hcut
          have e5s : IntKind.i64.wrap (5 + (s : Int)) = 5 + (s : Int) := by rw [IntKind.wrap_i64]; omega
          have e5s1 : IntKind.i64.wrap (5 + (s : Int) - 1) = 5 + (s : Int) - 1 := by rw [IntKind.wrap_i64]; omega
          have b1 : (0 : Int) ≤ 5 + (s : Int) := by omega
          have b2 : 5 + (s : Int) ≤ (c3 : Int) := by omega
          have b3 : 5 + (s : Int) ≤ (m : Int) := by omega
          have hnat : (5 + (s : Int)).toNat = 5 + s := by omega
          go_wp2_with fail
          have hlt5 : (p.take (5 + s)).length = 5 + s := by rw [List.length_take, HM.out]; omega
          have HLT5 := Lib.hid hlt5
          refine (copyBytesN (some ⟨g, 0, none⟩) c3 (5 + s) (p.take (5 + s)) w3 hlt5 (lies_take HV3.out.lies (5 + s)) (by omega)).mono ?_
          rintro e w4 ⟨A4, c4, rfl, hv4, hb4⟩
          obtain ⟨g4, c4', hv4e, hg4a, hg4b, hcap4, hcap4b⟩ := hv4.lit (by rw [hlt5]; omega)
          injection hv4e with hA4 hB4 hC4
          subst hA4 hC4
          clear hB4
          rw [hlt5] at hcap4
          have hgt : (p.take (5 + s))[4 + s]? = some xb := by rw [List.getElem?_take, if_pos (by omega)]; exact HGET.out
          have hcl := hv4.cell (4 + s) xb hgt 0 (.int .u8 xb) rfl
          rw [show (4 + s) * byE.sz + 0 = 4 + s from by show (4 + s) * 1 + 0 = 4 + s; omega] at hcl
          obtain ⟨_, _, cs4, hblk4⟩ := El.typed hv4 g4 rfl
          have hf4 : ∀ i, w4.frozen? ⟨g4, i, none⟩ = false := blkfree hblk4
          have hor := orB8 hXB.out
          have hix : (5 + (s : Int) - 1).toNat = 4 + s := by omega
          have hix2 : 5 + (s : Int) - 1 = ((4 + s : Nat) : Int) := by omega
          have hB4 := HB3.out.trans hb4
          have HB4 := Lib.hid (hB4.setCell (p := ⟨g4, 4 + s, none⟩) (.inr (Nat.le_trans HB3.out.size hg4a)) (.int .u8 (xb + 128)))
          have HV4 := Lib.hid (own_set_byte hv4 (4 + s) (xb + 128))
          have HV34 := Lib.hid (hb4)
          have j1 : (0 : Int) ≤ 5 + (s : Int) - 1 := by omega
          have j2 : 5 + (s : Int) - 1 < 5 + (s : Int) := by omega
          obtain ⟨L1, hL1⟩ : ∃ L, (p.take (5 + s)).set (4 + s) (xb + 128) = L := ⟨_, rfl⟩
          have hL1l : L1.length = 5 + s := by rw [← hL1, List.length_set]; exact hlt5
          rw [hL1] at HV4
          have HL1 := Lib.hid hL1
          have HL1L := Lib.hid hL1l
          have hnb : ((w4.setCell ⟨g4, 4 + s, none⟩ (.int .u8 (xb + 128))).alloc (.cells #[.int .u8 0] 5)).heap[w4.heap.size]? = some (.cells #[.int .u8 0] 5 (0, 0)) := by
            have h := heap_alloc_new (w4.setCell ⟨g4, 4 + s, none⟩ (.int .u8 (xb + 128))) (.cells #[.int .u8 0] 5)
            rw [show (w4.setCell ⟨g4, 4 + s, none⟩ (.int .u8 (xb + 128))).heap.size = w4.heap.size from by simp] at h
            exact h
          have HNB := Lib.hid hnb
          have hs34 := hb4.size
          have HP3 := Lib.hid (show byE.Own w4 w2.heap.size (.slice (some ⟨g, 0, none⟩) m c3) (p.take (5 + s) ++ p.drop (5 + s)) from by rw [List.take_append_drop]; exact HV3.out.new hb4)
          clear hgt hblk4 hv4 hb4 hB4 hlt5 hL1 hL1l hnb
          have hc5 : ¬ c3 = 5 + s := by have := HMM.out; omega
          have hm5 : 0 < m - (5 + s) := by have := HMM.out; omega
          have hdl : (p.drop (5 + s)).length = m - (5 + s) := by rw [List.length_drop, HM.out]
          have HDL := Lib.hid hdl
          have HPART := Lib.hid (show ∀ j u, (byE.cells (p.drop (5 + s)))[j]? = some u → w3.cell? ((⟨g, 5 + s, none⟩ : Addr).add j) = some u from fun j u hj => by
            have h : byE.Own w3 w2.heap.size (.slice (some ⟨g, 0, none⟩) m c3) (p.take (5 + s) ++ p.drop (5 + s)) := by rw [List.take_append_drop]; exact HV3.out
            have := h.part j u hj
            rw [HLT5.out, show (5 + s) * byE.sz = 5 + s from by show (5 + s) * 1 = 5 + s; omega] at this
            exact this)
          have HS34 := Lib.hid (HV34.out.setCell (p := ⟨g4, 4 + s, none⟩) (.inr hg4a) (.int .u8 (xb + 128)))
          clear hdl HP3
          go_wp2_with (first | (at_builtin; refine byE.append rfl _ _ rfl rfl w3.heap.size (.slice (some ⟨g4, 0, none⟩) (5 + s) c4) L1 rfl (HV4.out.alloc _) ⟨w4.heap.size, 0, none⟩ 1 1 [0] rfl (by omega) rfl (byE.cells_new HNB.out rfl) (by show (L1.length + 1) * (1 + 1) ≤ _; rw [HL1L.out]; omega) (by simp; omega) ?_; intro g5 c5 w5 hown hgrow; (have HB35 := Lib.hid (El.Own.grown (E := byE) (HS34.out.alloc (.cells #[.int .u8 0] 5)) (HV4.out.alloc _) hgrow (Nat.le_refl _))); rw [HL1L.out] at hown; (have HO5 := Lib.hid hown); clear hown hgrow; rw [HL1L.out]) | (at_builtin; refine byE.append rfl _ _ rfl rfl w3.heap.size (.slice (some ⟨g5, 0, none⟩) (5 + s + 1) c5) (L1 ++ [0]) rfl HO5.out ⟨g, 5 + s, none⟩ (m - (5 + s)) (c3 - (5 + s)) (p.drop (5 + s)) HDL.out (by omega) rfl (fun j u hj => HB35.out.cell_some (HPART.out j u hj) (fun c => c)) (by show ((L1 ++ [0]).length + (m - (5 + s))) * (1 + 1) ≤ _; rw [List.length_append, HL1L.out]; simp; omega) HB35.out.size ?_; intro g6 c6 w6 hown hgrow; (have HB36 := Lib.hid (El.Own.grown (E := byE) HB35.out HO5.out hgrow (Nat.le_refl _))); (have HO6 := Lib.hid hown); clear hown hgrow))
          have hxr := hXB.out
          have hB1 : Bytes L1 := by
            rw [← HL1.out]
            exact bytes_set (bytes_take HBY.out (5 + s)) (4 + s) (by omega)
          have hBf : Bytes ((L1 ++ [0]) ++ p.drop (5 + s)) := ⟨by rw [List.length_append, List.length_append, HL1L.out, HDL.out]; simp; omega, bytes_app (bytes_app hB1.rng (by decide)) (fun b hb => HBY.out.rng b (List.mem_of_mem_drop hb))⟩
          have hlf : ((L1 ++ [0]) ++ p.drop (5 + s)).length = L1.length + 1 + (m - (5 + s)) := by rw [List.length_append, List.length_append, HDL.out]; rfl
          have hdn : decPlan ((L1 ++ [0]) ++ p.drop (5 + s)) = none ∧ decErr ((L1 ++ [0]) ++ p.drop (5 + s)) = 182 := by
            rw [← HL1.out, HALL.out]
            exact HDN.out
          have HDF := Lib.hid hdn
          clear hxr hB1 hdn
          refine (decodeN hlf (by have := HO6.out; rw [List.length_append] at this; exact this) hBf).mono ?_
          rintro e w7 hd7
          obtain ⟨hb7, rfl⟩ := hd7.no HDF.out.1
          rw [HDF.out.2]
          obtain ⟨N7, hN7⟩ : ∃ N, decCount ((L1 ++ [0]) ++ p.drop (5 + s)) = N := ⟨_, rfl⟩
          rw [hN7]
          have r0 : (w7.alloc (.cells #[.slice none 0 0, .slice none 0 0] 25)).cell? ⟨w7.heap.size, 0, none⟩ = some (.slice none 0 0) := blkcell (heap_alloc_new w7 _) 0 (by simp)
          have HB7 := Lib.hid (((HB3.out.trans HB36.out).trans hb7).alloc (.cells #[.slice none 0 0, .slice none 0 0] 25))
          clear hb7 hd7 hN7 hlf hBf
          go_wp2_with fail
          refine (awake0 _).mono ?_
          rintro e w8 ⟨rfl, hb8⟩
          have HB8 := Lib.hid (HB7.out.trans hb8)
          clear hb8
          go_wp2_with fail
          go_ret
          exact ⟨rfl, HB8.out⟩
end Go.Proofs.Ytoaopjbgaehpfaa.G
end
section
/- WireNumbers, as its row wants it. -/
namespace Go.Proofs.Ytoaopjbgaehpfaa.G
open Go.RowKit
set_option linter.unusedVariables false
set_option linter.unusedSimpArgs false
theorem oInt : OpensK Try.prog 3 (seesInt .i64) (fun n => (Lit.int .i64 n).wf = true) := opensK_int Try.underlying3
theorem wireNumbersR (W : World) (x : Int) (v : Value) (hv : ∃ n, v = .int .i64 n) (hK : seesInt .i64 W x v.cells.toList) (hb : (Lit.int .i64 x).wf = true) :
    Calls Try.prog 7 #[v] W fun e W' => e = .returned (.bool true) ∧ Below W.heap.size W W' := by
  obtain ⟨m, rfl⟩ := hv
  exact (wireNumbers0 m W).mono fun e W' h => ⟨h.1, h.2.belowNo⟩
end Go.Proofs.Ytoaopjbgaehpfaa.G
end
