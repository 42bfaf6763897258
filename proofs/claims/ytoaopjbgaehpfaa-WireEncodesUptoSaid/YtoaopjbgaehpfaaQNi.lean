/- Texts of this claim, joined: words and laws that the others use. -/
import Derived.Test.YtoaopjbgaehpfaaQNh
import Derived.Test.YtoaopjbgaehpfaaQMr
import Derived.Test.YtoaopjbgaehpfaaQGk
section
/- The reference's Check of an expression is the program's: plain. -/
namespace Go.Proofs.Ytoaopjbgaehpfaa.G
open Go.RowKit
set_option linter.unusedVariables false
set_option linter.unusedSimpArgs false
def globX (x : Sp) (ps : List Sp) : Bool := if x.1 = 9 ∨ x.1 = 10 then globB ps else true
def toP (y : Sp) : Prt := if y.1 = 1 then ⟨false, true, y.2⟩ else if y.1 = 2 then ⟨false, false, mt⟩ else tru
theorem toP_truth (y : Sp) : (toP y).truth = trB y.1 := by
  unfold toP trB
  by_cases c1 : y.1 = 1
  · rw [if_pos c1, c1]; rfl
  rw [if_neg c1, bne_iff_ne.2 c1]
  by_cases c2 : y.1 = 2
  · rw [if_pos c2, c2]; rfl
  · rw [if_neg c2, bne_iff_ne.2 c2]; rfl
theorem popC_ref (st : List Sp) (k : Nat) (t : Bool) : popC (st.map toP) k t = if st.length < k then none else if (st.drop (st.length - k)).all (fun y => trB y.1 == t) = true then some ((st.take (st.length - k)).map toP, (st.drop (st.length - k)).map toP) else none := by
  unfold popC
  rw [List.length_map]
  by_cases c : st.length < k
  · rw [if_pos c, if_pos c]
  · rw [if_neg c, if_neg c, ← List.map_drop, ← List.map_take, List.all_map]
    have e : ((fun q : Prt => q.truth == t) ∘ toP) = fun y => trB y.1 == t := by
      funext y
      show ((toP y).truth == t) = _
      rw [toP_truth]
    rw [e]
theorem toP_lit (y : Sp) : (toP y).lit = (y.1 == 1) := by
  unfold toP
  by_cases c1 : y.1 = 1
  · rw [if_pos c1, c1]; rfl
  rw [if_neg c1, beq_eq_false_iff_ne.2 c1]
  by_cases c2 : y.1 = 2
  · rw [if_pos c2]
  · rw [if_neg c2]; rfl
theorem toP_text {y : Sp} (h : y.1 = 1) : (toP y).text = y.2 := by
  unfold toP
  rw [if_pos h]
theorem toP_tru {y : Sp} (h1 : y.1 ≠ 1) (h2 : y.1 ≠ 2) : toP y = tru := by
  unfold toP
  rw [if_neg h1, if_neg h2]
theorem stepC_ref (x : Sp) (st : List Sp) : stepC (st.map toP) x.1 x.2 = if okR x st = true then some ((st.take (st.length - (arityB x.1).toNat) ++ [x]).map toP) else none := by
  have snoc : ∀ s : List Sp, (s ++ [x]).map toP = s.map toP ++ [toP x] := fun s => by simp
  rw [snoc]
  rcases arityB_cases x.1 with ⟨ar, hk⟩ | ⟨ar, hk⟩ | ⟨ar, hk⟩ | ⟨ar, hk⟩
  · have e : okR x st = ownB x.1 x.2 := by
      unfold okR fitsB
      rw [ar, if_neg (by omega), show ((0 : Int).toNat) = 0 from rfl, Nat.sub_zero, List.drop_length, decide_eq_true (Int.le_refl 0), decide_eq_true (show (0 : Int) ≤ st.length by omega)]
      simp
    rw [e, ar, show ((0 : Int).toNat) = 0 from rfl, Nat.sub_zero, List.take_length]
    unfold stepC ownB
    simp only []
    by_cases c1 : x.1 = 1
    · have et : toP x = ⟨false, true, x.2⟩ := by unfold toP; rw [if_pos c1]
      rw [if_pos c1, if_pos c1, et]
      by_cases cs : x.2.size ≤ 1024
      · rw [if_pos cs, decide_eq_true cs, if_pos rfl]
      · rw [if_neg cs, decide_eq_false cs, if_neg (by decide)]
    rw [if_neg c1, if_neg c1]
    by_cases c2 : x.1 = 2
    · have et : toP x = ⟨false, false, mt⟩ := by unfold toP; rw [if_neg c1, if_pos c2]
      rw [if_pos c2, if_pos (Or.inl c2), et]
    rw [if_neg c2, toP_tru c1 c2]
    by_cases c3 : x.1 = 3
    · rw [if_pos c3, if_pos (Or.inr c3)]
    · rw [if_neg c3, if_pos (show x.1 = 4 ∨ x.1 = 5 by omega), if_neg (show ¬ (x.1 = 2 ∨ x.1 = 3) by omega)]
  · have e1 : (arityB x.1).toNat = 1 := by rw [ar]; rfl
    have eo : okR x st = (decide (1 ≤ st.length) && x.2.toList.isEmpty && (st.drop (st.length - 1)).all (fun y => trB y.1 == truthsB x.1)) := by
      unfold okR fitsB ownB
      rw [ar, if_neg (by omega), if_neg (by omega), if_neg (by omega), decide_eq_true (by decide), show ((1 : Int).toNat) = 1 from rfl, Bool.true_and, Bool.and_true]
      have : decide ((1 : Int) ≤ st.length) = decide (1 ≤ st.length) := by rw [Bool.eq_iff_iff, decide_eq_true_eq, decide_eq_true_eq]; omega
      rw [this]
    rw [eo, e1, toP_tru (by omega) (by omega)]
    have key : ∀ t : Bool, t = truthsB x.1 → (match popC (st.map toP) 1 t with | some (s, l) => if (true && x.2.toList.isEmpty) = true then some (s ++ [tru]) else none | none => none) = if (decide (1 ≤ st.length) && x.2.toList.isEmpty && (st.drop (st.length - 1)).all (fun y => trB y.1 == truthsB x.1)) = true then some ((st.take (st.length - 1)).map toP ++ [tru]) else none := by
      intro t ht
      rw [popC_ref, ← ht]
      by_cases c : st.length < 1
      · rw [if_pos c, decide_eq_false (by omega)]; rfl
      · rw [if_neg c, decide_eq_true (show 1 ≤ st.length by omega), Bool.true_and]
        cases ha : (st.drop (st.length - 1)).all (fun y => trB y.1 == t)
        · rw [if_neg (by decide), Bool.and_false]; rfl
        · rw [if_pos rfl, Bool.and_true]
    unfold stepC
    simp only []
    rcases hk with c | c
    · rw [if_neg (by omega), if_neg (by omega), if_neg (by omega), if_neg (by omega), if_pos c]
      exact key false (by rw [c]; rfl)
    · rw [if_neg (by omega), if_neg (by omega), if_neg (by omega), if_neg (by omega), if_neg (by omega), if_neg (by omega), if_neg (by omega), if_pos c]
      exact key true (by rw [c]; rfl)
  · have e1 : (arityB x.1).toNat = 2 := by rw [ar]; rfl
    have eo : okR x st = (decide (2 ≤ st.length) && x.2.toList.isEmpty && ((st.drop (st.length - 2)).all (fun y => trB y.1 == truthsB x.1) && globX x (st.drop (st.length - 2)))) := by
      unfold okR fitsB ownB
      rw [ar, if_neg (by omega), if_neg (by omega), decide_eq_true (by decide), show ((2 : Int).toNat) = 2 from rfl, Bool.true_and]
      have : decide ((2 : Int) ≤ st.length) = decide (2 ≤ st.length) := by rw [Bool.eq_iff_iff, decide_eq_true_eq, decide_eq_true_eq]; omega
      rw [this]
      rfl
    rw [eo, e1, toP_tru (by omega) (by omega)]
    have key : ∀ (t : Bool) (ok : List Prt → Bool), t = truthsB x.1 → (2 ≤ st.length → ok ((st.drop (st.length - 2)).map toP) = globX x (st.drop (st.length - 2))) → (match popC (st.map toP) 2 t with | some (s, l) => if (ok l && x.2.toList.isEmpty) = true then some (s ++ [tru]) else none | none => none) = if (decide (2 ≤ st.length) && x.2.toList.isEmpty && ((st.drop (st.length - 2)).all (fun y => trB y.1 == truthsB x.1) && globX x (st.drop (st.length - 2)))) = true then some ((st.take (st.length - 2)).map toP ++ [tru]) else none := by
      intro t ok ht hok
      rw [popC_ref, ← ht]
      by_cases c : st.length < 2
      · rw [if_pos c, decide_eq_false (by omega)]; rfl
      · rw [if_neg c, decide_eq_true (show 2 ≤ st.length by omega), Bool.true_and]
        cases ha : (st.drop (st.length - 2)).all (fun y => trB y.1 == t)
        · rw [if_neg (by decide), Bool.false_and, Bool.and_false]; rfl
        · rw [if_pos rfl, Bool.true_and]
          dsimp only
          rw [hok (by omega), Bool.and_comm]
    have plain : ¬ (x.1 = 9 ∨ x.1 = 10) → globX x (st.drop (st.length - 2)) = true := fun h => by unfold globX; rw [if_neg h]
    have glob : (x.1 = 9 ∨ x.1 = 10) → 2 ≤ st.length → (match ((st.drop (st.length - 2)).map toP)[1]? with | some q => q.lit && (checkRes q.text).2 == 0 | none => false) = globX x (st.drop (st.length - 2)) := by
      intro h9 hl
      obtain ⟨a, b, hab⟩ : ∃ a b, st.drop (st.length - 2) = [a, b] := by
        have hlen : (st.drop (st.length - 2)).length = 2 := by rw [List.length_drop]; omega
        match hd : st.drop (st.length - 2), hlen with
        | [a, b], _ => exact ⟨a, b, rfl⟩
      rw [hab]
      unfold globX
      rw [if_pos h9]
      show ((toP b).lit && (checkRes (toP b).text).2 == 0) = ((b.1 == 1) && (rcheckRes b.2).2 == 0)
      rw [rcheck_eq]
      rw [toP_lit]
      by_cases cb : b.1 = 1
      · rw [toP_text cb]
      · rw [beq_eq_false_iff_ne.2 cb, Bool.false_and, Bool.false_and]
    unfold stepC
    simp only []
    rw [if_neg (by omega), if_neg (by omega), if_neg (by omega), if_neg (by omega), if_neg (by omega)]
    by_cases c7 : x.1 = 7 ∨ x.1 = 8
    · rw [if_pos c7]
      exact key false (fun _ => true) (by rcases c7 with c | c <;> rw [c] <;> rfl) (fun _ => (plain (by omega)).symm)
    rw [if_neg c7]
    by_cases c9 : x.1 = 9 ∨ x.1 = 10
    · rw [if_pos c9]
      exact key false _ (by rcases c9 with c | c <;> rw [c] <;> rfl) (glob c9)
    rw [if_neg c9, if_neg (by omega), if_pos (by omega)]
    exact key true (fun _ => true) (by have c : x.1 = 12 ∨ x.1 = 13 := by omega
                                       rcases c with c | c <;> rw [c] <;> rfl) (fun _ => (plain (by omega)).symm)
  · have eo : okR x st = false := by unfold okR; rw [ar, decide_eq_false (by decide)]; rfl
    rw [eo, if_neg (by decide)]
    unfold stepC
    simp only []
    rw [if_neg (by omega), if_neg (by omega), if_neg (by omega), if_neg (by omega), if_neg (by omega), if_neg (by omega), if_neg (by omega), if_neg (by omega), if_neg (by omega)]
theorem refR_run : ∀ (t st : List Sp), refR t st = rootC (runC t (st.map toP))
  | [], st => by
    show rootR st = rootC (some (st.map toP))
    match st with
    | [] => rfl
    | [y] => exact (toP_truth y).symm
    | y :: z :: r => rfl
  | x :: t, st => by
    show (if okR x st = true then refR t (st.take (st.length - (arityB x.1).toNat) ++ [x]) else false) = rootC ((stepC (st.map toP) x.1 x.2).bind (runC t))
    rw [stepC_ref]
    cases h : okR x st with
    | false => rfl
    | true =>
      rw [if_pos rfl, if_pos rfl, refR_run t _]
      rfl
theorem refOk_eq (t : List Sp) : refOk t = checkB t := by
  unfold refOk checkB
  rw [refR_run t []]
  rfl
end Go.Proofs.Ytoaopjbgaehpfaa.G
end
section
/- The reference's plan: a rule's steps, with their texts. -/
namespace Go.Proofs.Ytoaopjbgaehpfaa.G
open Go.RowKit
attribute [local simp, local go_sem] alloc_drewN setCell_drewN
set_option linter.unusedVariables false
set_option linter.unusedSimpArgs false
set_option maxRecDepth 100000
theorem is17x (At Aj : Option Addr) (nt ct nj cj : Nat) (n : Int) (b : Bool) (hb : textB n nt = b) (w : World) (hl : nt ≤ 9223372036854775807) : Calls Try.prog 77 #[.agg #[.slice At nt ct, .slice Aj nj cj], .int .i64 n] w fun e w' => e = .returned (.bool b) ∧ w.alloc (.cells #[.slice At nt ct, .slice Aj nj cj] 25) = w' := by
  subst hb
  by_cases h0 : 0 ≤ n
  · have d0 : decide (0 ≤ n) = true := decide_eq_true h0
    have E := Lib.hid (show textB n nt = decide (n < (nt : Int)) from by unfold textB; rw [d0]; rfl)
    go_enter Try.func77, Try.ntmps77
    go_wp2_with fail
    go_ret
    exact ⟨by rw [E.out]; rfl, rfl⟩
  · have d0 : decide (0 ≤ n) = false := decide_eq_false h0
    have E := Lib.hid (show textB n nt = false from by unfold textB; rw [d0]; rfl)
    go_enter Try.func77, Try.ntmps77
    go_wp2_with fail
    go_ret
    exact ⟨by rw [E.out]; rfl, rfl⟩
theorem named0q (k : Int) (b : Bool) (hb : saysB k = b) (w : World) : Calls Try.prog 42 #[.int .i64 k] w fun e w' => e = .returned (.bool b) ∧ w = w' :=
  (named0 k w).mono fun e w' h => ⟨by rw [h.1, hb], h.2.symm⟩
def CodePost (w : World) (ts : List ByteArray) (code : List (Int × Int)) (e : Ending) (w' : World) : Prop :=
  But No w w' ∧ ((code.all (stepOk ts) = false ∧ e = .returned (.tuple #[.slice none 0 0, .bool false])) ∨
    (code.all (stepOk ts) = true ∧ ∃ v, e = .returned (.tuple #[v, .bool true]) ∧ stE.Own w' (w.heap.size + 2) v (code.map (stepOf ts))))
def CodeAt (W : World) (ts : List ByteArray) (code : List (Int × Int)) (gk : Nat) (v6 v12 : Value) (wr : World) : Prop :=
  ∃ i : Nat, gk = code.length - i ∧ i ≤ code.length ∧ v12 = .int .i64 (i : Int) ∧ But No W wr ∧ (code.take i).all (stepOk ts) = true ∧ stE.Own wr W.heap.size v6 ((code.take i).map (stepOf ts))
set_option maxHeartbeats 8000000 in
theorem code17 (At Aj : Option Addr) (nj ct cj : Nat) (ts : List ByteArray) (A : Option Addr) (c : Nat) (wh : Int) (code : List (Int × Int)) (w : World)
    (hT : StrsIn w At ts) (hV : PairsIn w A code) (htl : ts.length ≤ 9223372036854775807) (hl : code.length * 25 ≤ 140737488355328) :
    Calls Try.prog 84 #[.agg #[.slice At ts.length ct, .slice Aj nj cj], .agg #[.slice A code.length c, .int .i64 wh]] w (CodePost w ts code) := by
  have HT := Lib.hid hT
  have HV := Lib.hid hV
  have hbad : ∀ i (hi : i < code.length), stepOk ts code[i] = false → code.all (stepOk ts) = false := fun i hi hb => by
    cases h : code.all (stepOk ts) with
    | false => rfl
    | true => rw [List.all_eq_true.1 h _ (List.getElem_mem hi)] at hb; cases hb
  have HBAD := Lib.hid hbad
  obtain ⟨W, hW⟩ : ∃ W, (w.alloc (.cells #[.slice At ts.length ct, .slice Aj nj cj] 25)).alloc (.cells #[.slice A code.length c, .int .i64 wh] 58) = W := ⟨_, rfl⟩
  have HW := Lib.hid (show But No w W from by rw [← hW]; exact ((But.refl No w).alloc _).alloc _)
  have HBP := Lib.hid (show W.heap[w.heap.size]? = some (.cells #[.slice At ts.length ct, .slice Aj nj cj] 25 (0, 0)) from by rw [← hW]; exact blkold (heap_alloc_new w _) _)
  have HBR := Lib.hid (show W.heap[w.heap.size + 1]? = some (.cells #[.slice A code.length c, .int .i64 wh] 58 (0, 0)) from by rw [← hW]; exact blkb w _ _)
  have HW2 := Lib.hid (show w.heap.size + 2 = W.heap.size from by rw [← hW]; simp)
  clear hT hV hbad
  go_enter Try.func84, Try.ntmps84
  go_wp2_with fail
  clear hW
  go_loopg [6, 7] code.length (fun gk v6 v12 wr => CodeAt W ts code gk v6 v12 wr)
  case atStart => exact ⟨0, rfl, Nat.zero_le _, rfl, But.refl _ _, rfl, El.own_nil _ _⟩
  case round =>
    obtain ⟨i, hgk, hi, rfl, hb, hall, hO⟩ := hrel
    obtain ⟨nm, hnm⟩ : ∃ nm, (code.take i).map (stepOf ts) = nm := ⟨_, rfl⟩
    have hln : nm.length ≤ i := by rw [← hnm, List.length_map, List.length_take]; omega
    rw [hnm] at hO
    have HNM := Lib.hid hnm
    obtain ⟨A', c', rfl⟩ := hO.slice
    have hbw := HW.out.trans hb
    have HGK := Lib.hid hgk
    have HBt := Lib.hid hbw
    have HBW := Lib.hid hb
    have HSW := Lib.hid hb.size
    have HO := Lib.hid hO
    have HA := Lib.hid hall
    have hws : w.heap.size + 2 ≤ wr.heap.size := by rw [HW2.out]; exact hb.size
    have hbp := (hb.block w.heap.size (by have := HW2.out; omega) (fun c => c)).trans HBP.out
    have hbr := (hb.block (w.heap.size + 1) (by have := HW2.out; omega) (fun c => c)).trans HBR.out
    have p0 : wr.cell? ⟨w.heap.size, 0, none⟩ = some (.slice At ts.length ct) := blkcell hbp 0 (by simp)
    have p1 : wr.cell? ⟨w.heap.size, 1, none⟩ = some (.slice Aj nj cj) := blkcell hbp 1 (by simp)
    have r0 : wr.cell? ⟨w.heap.size + 1, 0, none⟩ = some (.slice A code.length c) := blkcell hbr 0 (by simp)
    have hg1 : w.heap.size < wr.heap.size := by omega
    have hg2 : w.heap.size + 1 < wr.heap.size := by omega
    have hne1 : ¬ wr.heap.size = w.heap.size := by omega
    have hne2 : ¬ wr.heap.size + 1 = w.heap.size := by omega
    have hne3 : ¬ wr.heap.size + 1 + 1 = w.heap.size := by omega
    have HSZ := Lib.hid hbw.size
    clear hgk hb hO hnm hall hbw hbp hbr
    by_cases hlt : i < code.length
    · obtain ⟨ad, hA, k1, k2⟩ := HV.out i hlt
      cases hA
      have k1' := HBt.out.cell_some k1 (fun c => c)
      have k2' := HBt.out.cell_some k2 (fun c => c)
      have hlt' : (i : Int) < (code.length : Int) := by omega
      have dl : decide ((i : Int) < (code.length : Int)) = true := decide_eq_true hlt'
      have hb0 := HBAD.out i hlt
      have hn0 : (code.take (i + 1)).map (stepOf ts) = nm ++ [stepOf ts code[i]] := by rw [List.take_succ_eq_append_getElem hlt, List.map_append, HNM.out]; rfl
      have ha0 : stepOk ts code[i] = true → (code.take (i + 1)).all (stepOk ts) = true := fun h => by rw [List.take_succ_eq_append_getElem hlt, List.all_append, HA.out]; simp [h]
      obtain ⟨⟨kk, x⟩, hp⟩ : ∃ p, code[i] = p := ⟨_, rfl⟩
      rw [hp] at k1' k2' hb0 hn0 ha0
      dsimp only at k1' k2'
      have HB0 := Lib.hid hb0
      have HN0 := Lib.hid hn0
      have HA0 := Lib.hid ha0
      clear hp k1 k2 hb0 hn0 ha0
      obtain ⟨b, hsb⟩ : ∃ b, saysB kk = b := ⟨_, rfl⟩
      have HSB := Lib.hid hsb
      clear hsb
      cases b with
      | true =>
        obtain ⟨b2, htb⟩ : ∃ b, textB x ts.length = b := ⟨_, rfl⟩
        have HTB := Lib.hid htb
        clear htb
        cases b2 with
        | false =>
          have E := Lib.hid (HB0.out (by unfold stepOk; rw [if_pos HSB.out]; exact HTB.out))
          go_wp2_with (first | (go_at_call 42; refine (named0q kk true HSB.out _).mono ?_; rintro e w2 ⟨rfl, rfl⟩) | (go_at_call 77; refine (is17x At Aj ts.length ct nj cj x false HTB.out _ htl).mono ?_; rintro e w2 ⟨rfl, rfl⟩))
          go_ret2
          exact ⟨((HBt.out.alloc _).alloc _).alloc _, .inl ⟨E.out, rfl⟩⟩
        | true =>
          have ht := HTB.out
          unfold textB at ht
          rw [Bool.and_eq_true, decide_eq_true_eq, decide_eq_true_eq] at ht
          obtain ⟨ht0, ht1⟩ := ht
          obtain ⟨m, rfl⟩ : ∃ m : Nat, x = (m : Int) := ⟨x.toNat, by omega⟩
          have hm : m < ts.length := by omega
          obtain ⟨ad2, hA2, k3⟩ := HT.out m hm
          cases hA2
          obtain ⟨tx, htx⟩ : ∃ tx, ts[m] = tx := ⟨_, rfl⟩
          have hstr : strAt ts (m : Int) = tx := by unfold strAt; rw [Int.toNat_natCast, List.getD_eq_getElem?_getD, List.getElem?_eq_getElem hm, htx]; rfl
          rw [htx] at k3
          have k3' := HBt.out.cell_some k3 (fun c => c)
          obtain ⟨W3, hW3⟩ : ∃ W3, ((wr.alloc (.cells #[.int .i64 kk, .int .i64 (m : Int)] 79)).alloc (.cells #[.int .i64 kk, .string ⟨#[]⟩] 115)).alloc (.cells #[.slice (some ad2) ts.length ct, .slice Aj nj cj] 25) = W3 := ⟨_, rfl⟩
          have hb3 : But No wr W3 := by rw [← hW3]; exact (((But.refl No wr).alloc _).alloc _).alloc _
          have hx3 : W3.heap[wr.heap.size]? = some (.cells #[.int .i64 kk, .int .i64 (m : Int)] 79 (0, 0)) := by rw [← hW3]; exact blkold (blkold (heap_alloc_new wr _) _) _
          have hs3 : W3.heap[wr.heap.size + 1]? = some (.cells #[.int .i64 kk, .string ⟨#[]⟩] 115 (0, 0)) := by rw [← hW3]; exact blkold (blkb wr _ _) _
          have hz3 : W3.heap.size = wr.heap.size + 1 + 1 + 1 := by rw [← hW3]; simp
          have HIS := Lib.hid (fun W (h : (wr.alloc (.cells #[.int .i64 kk, .int .i64 (m : Int)] 79)).alloc (.cells #[.int .i64 kk, .string ⟨#[]⟩] 115) = W) => (is17x (some ad2) Aj ts.length ct nj cj (m : Int) true HTB.out W htl).mono (fun e w' (h2 : e = .returned (.bool true) ∧ W.alloc (.cells #[.slice (some ad2) ts.length ct, .slice Aj nj cj] 25) = w') => (⟨h2.1, by rw [← hW3, h, h2.2]⟩ : e = .returned (.bool true) ∧ W3 = w')))
          have k3a : W3.cell? (ad2.add m) = some (.string tx) := hb3.cell_some k3' (fun c => c)
          have p0a : W3.cell? ⟨w.heap.size, 0, none⟩ = some (.slice (some ad2) ts.length ct) := hb3.cell_some p0 (fun c => c)
          have x1a : W3.cell? ⟨wr.heap.size, 1, none⟩ = some (.int .i64 (m : Int)) := blkcell hx3 1 (by simp)
          have s0a : W3.cell? ⟨wr.heap.size + 1, 0, none⟩ = some (.int .i64 kk) := blkcell hs3 0 (by simp)
          have s1a : W3.cell? ⟨wr.heap.size + 1, 1, none⟩ = some (.string ⟨#[]⟩) := blkcell hs3 1 (by simp)
          have sfa := fun i => blkfree hs3 i
          have H3 := Lib.hid hb3
          have HS3 := Lib.hid hs3
          have HZ3 := Lib.hid hz3
          clear hW3 hb3 hx3 hs3 hz3
          have hmi : (m : Int) < (ts.length : Int) := by omega
          have hmb : decide ((m : Int) < (ts.length : Int)) = true := decide_eq_true hmi
          have HNX := Lib.hid (show (code.take (i + 1)).map (stepOf ts) = nm ++ [(kk, tx)] from by rw [HN0.out]; unfold stepOf; dsimp only; rw [if_pos HSB.out, hstr])
          have E := Lib.hid (HA0.out (by unfold stepOk; dsimp only; rw [if_pos HSB.out]; exact HTB.out))
          clear htx k3 ht0 ht1 hstr
          have hst : But No wr (W3.setCell ⟨wr.heap.size + 1, 1, none⟩ (.string tx)) := H3.out.setCell (p := ⟨wr.heap.size + 1, 1, none⟩) (.inr (by simp)) _
          have HST := Lib.hid hst
          clear hst
          go_wp2_with (first | (go_at_call 42; refine (named0q kk true HSB.out _).mono ?_; rintro e w2 ⟨rfl, rfl⟩) | (go_at_call 77; refine (HIS.out _ rfl).mono ?_; rintro e w2 ⟨rfl, rfl⟩) | (at_builtin; refine stE.append1L rfl _ _ rfl rfl W.heap.size (.slice A' nm.length c') nm rfl ((HO.out.new HST.out).alloc _) W3.heap.size (kk, tx) #[.int .i64 kk, .string tx] rfl rfl ?hrow (by show (nm.length + 1) * (24 + 1) ≤ _; omega) (by have := HSW.out; have := HST.out.size; simp at this ⊢; omega) ?_; (case hrow => (have := heap_alloc_new (W3.setCell ⟨wr.heap.size + 1, 1, none⟩ (.string tx)) (.cells #[.int .i64 kk, .string tx] 115); simpa using this)); intro g2 c2 w2 hown hgrow _))
          have HB2 := Lib.hid (El.Own.grown ((HBW.out.trans HST.out).alloc _) ((HO.out.new HST.out).alloc _) hgrow (Nat.le_refl _))
          have HO2 := Lib.hid hown
          clear hown hgrow
          go_roundg (code.length - (i + 1))
          case measure => rw [HGK.out]; omega
          case rel => exact ⟨i + 1, rfl, by omega, by go_num, HB2.out, E.out, by rw [HNX.out]; exact HO2.out⟩
      | false =>
        by_cases hx : x = 0
        · subst hx
          have HNX := Lib.hid (show (code.take (i + 1)).map (stepOf ts) = nm ++ [(kk, (⟨#[]⟩ : ByteArray))] from by rw [HN0.out]; unfold stepOf; dsimp only; rw [if_neg (by rw [HSB.out]; decide)])
          have E := Lib.hid (HA0.out (by unfold stepOk; dsimp only; rw [if_neg (by rw [HSB.out]; decide)]; rfl))
          go_wp2_with (first | (go_at_call 42; refine (named0q kk false HSB.out _).mono ?_; rintro e w2 ⟨rfl, rfl⟩) | (at_builtin; refine stE.append1L rfl _ _ rfl rfl W.heap.size (.slice A' nm.length c') nm rfl (((HO.out.new ((But.refl No wr).alloc _)).alloc _).alloc _) (wr.heap.size + 1 + 1) (kk, (⟨#[]⟩ : ByteArray)) #[.int .i64 kk, .string (⟨#[]⟩ : ByteArray)] rfl rfl ?hrow (by show (nm.length + 1) * (24 + 1) ≤ _; omega) (by have := HSW.out; simp; omega) ?_; (case hrow => exact heap_alloc3_newJ wr _ _ _); intro g2 c2 w2 hown hgrow _))
          have HB2 := Lib.hid (El.Own.grown (((HBW.out.alloc _).alloc _).alloc _) (((HO.out.new ((But.refl No wr).alloc _)).alloc _).alloc _) hgrow (Nat.le_refl _))
          have HO2 := Lib.hid hown
          clear hown hgrow
          go_roundg (code.length - (i + 1))
          case measure => rw [HGK.out]; omega
          case rel => exact ⟨i + 1, rfl, by omega, by go_num, HB2.out, E.out, by rw [HNX.out]; exact HO2.out⟩
        · have E := Lib.hid (HB0.out (by unfold stepOk; dsimp only; rw [if_neg (by rw [HSB.out]; decide)]; simpa using hx))
          have dx : (x == 0) = false := by simpa using hx
          have dx' : ¬ x = 0 := hx
          go_wp2_with (first | (go_at_call 42; refine (named0q kk false HSB.out _).mono ?_; rintro e w2 ⟨rfl, rfl⟩))
          go_ret2
          exact ⟨(HBt.out.alloc _).alloc _, .inl ⟨E.out, rfl⟩⟩
    · obtain rfl : i = code.length := by omega
      have hlt' : ¬ (code.length : Int) < (code.length : Int) := by omega
      have hnm := HNM.out
      rw [List.take_length] at hnm
      have ha := HA.out
      rw [List.take_length] at ha
      have HX := Lib.hid hnm
      have HY := Lib.hid ha
      clear hnm ha
      go_wp2_with fail
      go_ret2
      exact ⟨HBt.out, .inr ⟨HY.out, _, rfl, by rw [HX.out, HW2.out]; exact HO.out⟩⟩
end Go.Proofs.Ytoaopjbgaehpfaa.G
end
section
/- The reference's plan: a job's rules (printed by gen_nk.py). -/
namespace Go.Proofs.Ytoaopjbgaehpfaa.G
open Go.RowKit
attribute [local simp, local go_sem] alloc_drewN setCell_drewN
set_option linter.unusedVariables false
set_option linter.unusedSimpArgs false
set_option maxRecDepth 100000
theorem whenIs0q (k : Int) (b : Bool) (hb : whenB k = b) (w : World) : Calls Try.prog 78 #[.int .i64 k] w fun e w' => e = .returned (.bool b) ∧ w = w' :=
  (whenIs0 k w).mono fun e w' h => ⟨by rw [h.1, hb], h.2.symm⟩
def BxAt (W : World) (n : Nat) (P : Nat → Prop) (gk : Nat) (v : Value) (wr : World) : Prop := ∃ i : Nat, gk = n - i ∧ i ≤ n ∧ v = .int .i64 (i : Int) ∧ But No W wr ∧ P i
/-- A job as a value. -/
def jobV (j : JobP) (Ar Av Ap : Option Addr) (cr cv cp : Nat) : Value := .agg #[.int .i64 j.one.name, .int .i64 j.one.run, .int .i64 j.one.stage, .int .i64 j.one.when_, .bool j.allow, .int .i64 j.one.weight, .slice Ar j.rules.length cr, .slice Av j.vars.length cv, .slice Ap j.preds.length cp]
set_option maxHeartbeats 8000000 in
theorem rules17 (At Aj : Option Addr) (nj ct cj : Nat) (ts : List ByteArray) (j : JobP) (Ar Av Ap : Option Addr) (cr cv cp : Nat) (w : World)
    (hT : StrsIn w At ts) (hV : RulesIn w Ar j.rules) (hts : ∀ s ∈ ts, s.size ≤ 9223372036854775807) (htl : ts.length ≤ 9223372036854775807) (hl : j.rules.length ≤ 9223372036854775807) (hlr : ∀ r ∈ j.rules, r.1.length * 25 ≤ 140737488355328) :
    Calls Try.prog 79 #[.agg #[.slice At ts.length ct, .slice Aj nj cj], jobV j Ar Av Ap cr cv cp] w fun e w' => e = .returned (.bool (rulesB ts j.rules)) ∧ But No w w' := by
  unfold jobV
  obtain ⟨⟨jn, jr, js, jw, jg⟩, jal, rs, jvs, jps⟩ := j
  dsimp only at *
  obtain ⟨nv, hnv⟩ : ∃ n, jvs.length = n := ⟨_, rfl⟩
  obtain ⟨np, hnp⟩ : ∃ n, jps.length = n := ⟨_, rfl⟩
  rw [hnv, hnp]
  clear hnv hnp
  by_cases h16 : 16 < rs.length
  · have E := Lib.hid (show rulesB ts rs = false from by unfold rulesB; rw [decide_eq_false (by omega)]; simp)
    have d : decide ((16 : Int) < (rs.length : Int)) = true := decide_eq_true (by omega)
    have d' : (16 : Int) < (rs.length : Int) := by omega
    clear hT hV hts hlr
    go_enter Try.func79, Try.ntmps79
    go_wp2_with fail
    go_ret
    exact ⟨by rw [E.out]; rfl, ((But.refl No w).alloc _).alloc _⟩
  have d : decide ((16 : Int) < (rs.length : Int)) = false := decide_eq_false (by omega)
  have d' : ¬ (16 : Int) < (rs.length : Int) := by omega
  have HT := Lib.hid hT
  have HV := Lib.hid hV
  have HS := Lib.hid hts
  have HL := Lib.hid hlr
  have H16 := Lib.hid (show rs.length ≤ 16 by omega)
  have HBAD : Hid (∀ i (hi : i < rs.length), ruleB ts rs[i] = false → rulesB ts rs = false) := Lib.hid (fun i hi hb => by
    unfold rulesB
    rw [Bool.and_eq_false_iff, List.all_eq_false]
    exact .inr ⟨_, List.getElem_mem hi, by simp [hb]⟩)
  obtain ⟨W, hW⟩ : ∃ W, (w.alloc (.cells #[.slice At ts.length ct, .slice Aj nj cj] 25)).alloc (.cells #[.int .i64 jn, .int .i64 jr, .int .i64 js, .int .i64 jw, .bool jal, .int .i64 jg, .slice Ar rs.length cr, .slice Av nv cv, .slice Ap np cp] 52) = W := ⟨_, rfl⟩
  have HW := Lib.hid (show But No w W from by rw [← hW]; exact ((But.refl No w).alloc _).alloc _)
  have HBP := Lib.hid (show W.heap[w.heap.size]? = some (.cells #[.slice At ts.length ct, .slice Aj nj cj] 25 (0, 0)) from by rw [← hW]; exact blkold (heap_alloc_new w _) _)
  have HBR := Lib.hid (show W.heap[w.heap.size + 1]? = some (.cells #[.int .i64 jn, .int .i64 jr, .int .i64 js, .int .i64 jw, .bool jal, .int .i64 jg, .slice Ar rs.length cr, .slice Av nv cv, .slice Ap np cp] 52 (0, 0)) from by rw [← hW]; exact blkb w _ _)
  have HW2 := Lib.hid (show w.heap.size + 2 = W.heap.size from by rw [← hW]; simp)
  have j60 : W.cell? ⟨w.heap.size + 1, 6, none⟩ = some (.slice Ar rs.length cr) := blkcell HBR.out 6 (by simp)
  clear hT hV hts hlr h16
  go_enter Try.func79, Try.ntmps79
  go_wp2_with fail
  go_loopg [5] rs.length (fun gk v wr => BxAt W rs.length (fun i => (rs.take i).all (ruleB ts) = true) gk v wr)
  case atStart => exact ⟨0, rfl, Nat.zero_le _, rfl, by first | exact But.refl _ _ | (rw [hW]; exact But.refl _ _), rfl⟩
  case round =>
    obtain ⟨i, hgk, hi, rfl, hb, hall⟩ := hrel
    have HGK := Lib.hid hgk
    have hbw := HW.out.trans hb
    have HBt := Lib.hid hbw
    have HBW := Lib.hid hb
    have HA := Lib.hid hall
    have hws : w.heap.size + 2 ≤ wr.heap.size := by rw [HW2.out]; exact hb.size
    have hbp := (hb.block w.heap.size (by have := HW2.out; omega) (fun c => c)).trans HBP.out
    have hbr := (hb.block (w.heap.size + 1) (by have := HW2.out; omega) (fun c => c)).trans HBR.out
    have p0 : wr.cell? ⟨w.heap.size, 0, none⟩ = some (.slice At ts.length ct) := blkcell hbp 0 (by simp)
    have p1 : wr.cell? ⟨w.heap.size, 1, none⟩ = some (.slice Aj nj cj) := blkcell hbp 1 (by simp)
    have j6 : wr.cell? ⟨w.heap.size + 1, 6, none⟩ = some (.slice Ar rs.length cr) := blkcell hbr 6 (by simp)
    clear hgk hb hall hbw hbp hbr hW j60
    by_cases hlt : i < rs.length
    · obtain ⟨ad, hA, A2, c2, k1, k2, hPi⟩ := HV.out i hlt
      cases hA
      have k1' := HBt.out.cell_some k1 (fun c => c)
      have k2' := HBt.out.cell_some k2 (fun c => c)
      have hlt' : (i : Int) < (rs.length : Int) := by omega
      have dl : decide ((i : Int) < (rs.length : Int)) = true := decide_eq_true hlt'
      have hb0 := HBAD.out i hlt
      have hl0 := HL.out _ (List.getElem_mem hlt)
      have ha0 : ruleB ts rs[i] = true → (rs.take (i + 1)).all (ruleB ts) = true := fun h => by rw [List.take_succ_eq_append_getElem hlt, List.all_append, HA.out]; simp [h]
      obtain ⟨⟨code, wh⟩, hp⟩ : ∃ p, rs[i] = p := ⟨_, rfl⟩
      rw [hp] at k1' k2' hb0 ha0 hPi hl0
      dsimp only at k1' k2' hPi hl0
      have HPI := Lib.hid hPi
      have HL0 := Lib.hid hl0
      have HB0 := Lib.hid hb0
      have HA0 := Lib.hid ha0
      have HCD := Lib.hid (fun (W' : World) (h : But No wr W') => code17 At Aj nj ct cj ts A2 c2 wh code W' (HT.out.but (HBt.out.trans h)) (HPI.out.but (HBt.out.trans h)) htl HL0.out)
      clear hp k1 k2 hb0 ha0 hPi hl0
      have hcl : code.length ≤ 9223372036854775807 := by have := HL0.out; omega
      obtain ⟨b1, hb1⟩ : ∃ b, code.all (stepOk ts) = b := ⟨_, rfl⟩
      have HB1 := Lib.hid hb1
      clear hb1
      cases b1 with
      | false =>
        have E := Lib.hid (HB0.out (by unfold ruleB; dsimp only; rw [HB1.out]; rfl))
        go_wp2_with fail
        refine wp_region_held_drew (S := fun w' => But No wr w') (by kernel_rfl) ((But.refl No wr).drewN 1) (fun hS => ?_)
        refine takeE 0 (some 20) rfl rfl (fun w e1 => by have q0 := e1.cell_some p0 (fun c => c); have q1 := e1.cell_some p1 (fun c => c); go_simp <;> (with_reducible rfl)) hS ?_
        simp only [putS]
        refine takeE 1 (some 21) rfl rfl (fun w e1 => by go_simp <;> (with_reducible rfl)) hS ?_
        simp only [putS]
        refine takeE 2 (some 22) rfl rfl (fun w e1 => by have q6 := e1.cell_some j6 (fun c => c); go_simp <;> (with_reducible rfl)) hS ?_
        simp only [putS]
        refine takeE 3 (some 23) rfl rfl (fun w e1 => by go_simp <;> (with_reducible rfl)) hS ?_
        simp only [putS]
        refine takeE 4 (some 24) rfl rfl (fun w e1 => by go_simp <;> (with_reducible rfl)) hS ?_
        simp only [putS]
        refine takeE 5 (some 25) rfl rfl (fun w e1 => by have z1 := e1.cell_some k1' (fun c => c); have z2 := e1.cell_some k2' (fun c => c); go_simp <;> (with_reducible rfl)) hS ?_
        simp only [putS]
        refine wpAnyH_ready (rs := [6]) (by kernel_rfl) (by simp) (AllReadyH.cons rfl (fun K6 hK6 => ?_) AllReadyH.nil)
        rw [if_pos (by kernel_rfl)]
        go_simp
        go_at_call 84
        refine (HCD.out _ hS).mono ?_
        rintro e w8 ⟨hb8, h8⟩
        rcases h8 with ⟨_, rfl⟩ | ⟨h9, _⟩
        rotate_left
        · rw [HB1.out] at h9; cases h9
        have HC6 := Lib.hid (hS.trans hb8)
        clear hb8
        simp only []
        refine hK6.out _ _ HC6.out (fun hS => ?_)
        try simp only [putS, List.getElem_toArray, List.getElem_cons_zero, List.getElem_cons_succ]
        refine takeE 7 (some 19) rfl rfl (fun w e1 => by go_simp <;> (with_reducible rfl)) hS ?_
        simp only [putS]
        refine takeE 8 (some 27) rfl rfl (fun w e1 => by go_simp <;> (with_reducible rfl)) hS ?_
        simp only [putS]
        refine takeE 9 (some 28) rfl rfl (fun w e1 => by go_simp <;> (with_reducible rfl)) hS ?_
        simp only [putS]
        refine takeE 10 (some 6) rfl rfl (fun w e1 => by go_simp <;> (with_reducible rfl)) hS ?_
        simp only [putS]
        refine takeE 11 (some 7) rfl rfl (fun w e1 => by go_simp <;> (with_reducible rfl)) hS ?_
        simp only [putS]
        refine wpAnyH_done (by kernel_rfl) ?_ _
        go_wp2_with fail
        go_ret
        exact ⟨by rw [E.out]; rfl, HBt.out.trans HC6.out⟩
      | true =>
      go_wp2_with fail
      refine wp_region_held_drew (S := fun w' => But No wr w') (by kernel_rfl) ((But.refl No wr).drewN 1) (fun hS => ?_)
      refine takeE 0 (some 20) rfl rfl (fun w e1 => by have q0 := e1.cell_some p0 (fun c => c); have q1 := e1.cell_some p1 (fun c => c); go_simp <;> (with_reducible rfl)) hS ?_
      simp only [putS]
      refine takeE 1 (some 21) rfl rfl (fun w e1 => by go_simp <;> (with_reducible rfl)) hS ?_
      simp only [putS]
      refine takeE 2 (some 22) rfl rfl (fun w e1 => by have q6 := e1.cell_some j6 (fun c => c); go_simp <;> (with_reducible rfl)) hS ?_
      simp only [putS]
      refine takeE 3 (some 23) rfl rfl (fun w e1 => by go_simp <;> (with_reducible rfl)) hS ?_
      simp only [putS]
      refine takeE 4 (some 24) rfl rfl (fun w e1 => by go_simp <;> (with_reducible rfl)) hS ?_
      simp only [putS]
      refine takeE 5 (some 25) rfl rfl (fun w e1 => by have z1 := e1.cell_some k1' (fun c => c); have z2 := e1.cell_some k2' (fun c => c); go_simp <;> (with_reducible rfl)) hS ?_
      simp only [putS]
      refine wpAnyH_ready (rs := [6]) (by kernel_rfl) (by simp) (AllReadyH.cons rfl (fun K6 hK6 => ?_) AllReadyH.nil)
      rw [if_pos (by kernel_rfl)]
      go_simp
      go_at_call 84
      refine (HCD.out _ hS).mono ?_
      rintro e w8 ⟨hb8, h8⟩
      rcases h8 with ⟨h9, _⟩ | ⟨_, v, rfl, hv8⟩
      · rw [HB1.out] at h9; cases h9
      have HV8 := Lib.hid hv8
      have HC6 := Lib.hid (hS.trans hb8)
      clear hb8
      simp only []
      refine hK6.out _ _ HC6.out (fun hS => ?_)
      try simp only [putS, List.getElem_toArray, List.getElem_cons_zero, List.getElem_cons_succ]
      refine takeE 7 (some 19) rfl rfl (fun w e1 => by go_simp <;> (with_reducible rfl)) hS ?_
      simp only [putS]
      refine takeE 8 (some 27) rfl rfl (fun w e1 => by go_simp <;> (with_reducible rfl)) hS ?_
      simp only [putS]
      refine takeE 9 (some 28) rfl rfl (fun w e1 => by go_simp <;> (with_reducible rfl)) hS ?_
      simp only [putS]
      refine takeE 10 (some 6) rfl rfl (fun w e1 => by go_simp <;> (with_reducible rfl)) hS ?_
      simp only [putS]
      refine takeE 11 (some 7) rfl rfl (fun w e1 => by go_simp <;> (with_reducible rfl)) hS ?_
      simp only [putS]
      refine wpAnyH_done (by kernel_rfl) ?_ _
      have k2'' := HC6.out.cell_some k2' (fun c => c)
      have k1'' := HC6.out.cell_some k1' (fun c => c)
      have j6'' := HC6.out.cell_some j6 (fun c => c)
      obtain ⟨Ac, cc, rfl⟩ := HV8.out.slice
      have hml : (code.map (stepOf ts)).length = code.length := List.length_map ..
      rw [hml]
      clear k1' k2' j6 p0 p1 hS hv8 hml
      obtain ⟨b2, hb2⟩ : ∃ b, whenB wh = b := ⟨_, rfl⟩
      have HB2 := Lib.hid hb2
      clear hb2
      cases b2 with
      | false =>
        have E := Lib.hid (HB0.out (by unfold ruleB; dsimp only; rw [HB1.out, HB2.out]; rfl))
        go_wp2_with (go_at_call 78; refine (whenIs0q wh false HB2.out _).mono ?_; rintro e w2 ⟨rfl, rfl⟩)
        go_ret
        exact ⟨by rw [E.out]; rfl, HBt.out.trans HC6.out⟩
      | true =>
      by_cases hn : code.length = 0
      · have E := Lib.hid (HA0.out (by unfold ruleB; dsimp only; rw [HB1.out, HB2.out, hn]; rfl))
        rw [hn]
        clear hn
        go_wp2_with (go_at_call 78; refine (whenIs0q wh true HB2.out _).mono ?_; rintro e w2 ⟨rfl, rfl⟩)
        go_roundg (rs.length - (i + 1))
        case measure => rw [HGK.out]; omega
        case rel => exact ⟨i + 1, rfl, by omega, by go_num, HBW.out.trans HC6.out, E.out⟩
      · obtain ⟨b3, hb3⟩ : ∃ b, checkB (code.map (stepOf ts)) = b := ⟨_, rfl⟩
        have hpos : (0 : Int) < (code.length : Int) := by omega
        have dpos : decide ((0 : Int) < (code.length : Int)) = true := decide_eq_true hpos
        have HCK := Lib.hid (show Calls Try.prog 85 #[.slice Ac code.length cc] w8 fun e w' => e = .returned (.bool b3) ∧ But No w8 w' from by
          have h := rcheckX Ac cc (code.map (stepOf ts)) w8 (stE_in HV8.out) (by rw [List.length_map]; exact hcl) (stepOf_size HS.out code)
          rw [List.length_map, refOk_eq, hb3] at h
          exact h)
        have HN := Lib.hid hn
        have HB3 := Lib.hid hb3
        clear hn hb3
        cases b3 with
        | false =>
          have E := Lib.hid (HB0.out (by unfold ruleB; dsimp only; rw [HB1.out, HB2.out, HB3.out, beq_eq_false_iff_ne.2 HN.out]; rfl))
          go_wp2_with (first | (go_at_call 78; refine (whenIs0q wh true HB2.out _).mono ?_; rintro e w2 ⟨rfl, rfl⟩) | (go_at_call 85; refine HCK.out.mono ?_; rintro e w9 ⟨rfl, hb9⟩; have HB9 := Lib.hid hb9; clear hb9))
          go_ret
          exact ⟨by rw [E.out]; rfl, (HBt.out.trans HC6.out).trans HB9.out⟩
        | true =>
          have E := Lib.hid (HA0.out (by unfold ruleB; dsimp only; rw [HB1.out, HB2.out, HB3.out]; simp))
          go_wp2_with (first | (go_at_call 78; refine (whenIs0q wh true HB2.out _).mono ?_; rintro e w2 ⟨rfl, rfl⟩) | (go_at_call 85; refine HCK.out.mono ?_; rintro e w9 ⟨rfl, hb9⟩; have HB9 := Lib.hid hb9; clear hb9))
          go_roundg (rs.length - (i + 1))
          case measure => rw [HGK.out]; omega
          case rel => exact ⟨i + 1, rfl, by omega, by go_num, (HBW.out.trans HC6.out).trans HB9.out, E.out⟩
    · obtain rfl : i = rs.length := by omega
      have hlt' : ¬ (rs.length : Int) < (rs.length : Int) := by omega
      have E := Lib.hid (show rulesB ts rs = true from by
        have ha := HA.out
        rw [List.take_length] at ha
        unfold rulesB
        rw [ha, decide_eq_true H16.out]
        rfl)
      go_wp2_with fail
      go_ret
      exact ⟨by rw [E.out]; rfl, HBt.out⟩
end Go.Proofs.Ytoaopjbgaehpfaa.G
end
