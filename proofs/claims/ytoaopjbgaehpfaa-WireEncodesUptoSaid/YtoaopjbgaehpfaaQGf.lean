/- The reader's brackets: the walk. -/
import Derived.Test.YtoaopjbgaehpfaaQGk
namespace Go.Proofs.Ytoaopjbgaehpfaa.G
open Go.RowKit
attribute [local simp, local go_sem] alloc_drewN setCell_drewN
set_option linter.unusedVariables false
set_option linter.unusedSimpArgs false
set_option maxRecDepth 100000
theorem infoSpan : (Try.prog.info? 153).map (fun i => (i.zero, i.size, i.bytes)) = some (some (.agg #[.int .u8 0, .int .u8 0]), 2, 2) := by kernel_rfl
def goes (p : ByteArray) (x : Nat) : Bool := decide (x < p.size) && (bt p x != 93)
def dash (p : ByteArray) (x : Nat) : Bool := decide (x + 1 < p.size) && ((bt p x == 45) && (bt p (x + 1) != 93))
def notAt (p : ByteArray) (x : Nat) : Bool := decide (x < p.size) && (bt p x == 33)
/-- What holds at the head of each round. -/
def ClassAt (w : World) (g : Nat) (p : ByteArray) (fr : Nat) (no : Bool) (F : Nat × Int × List (Int × Int)) (k : Nat) (wr : World) : Prop :=
  ∃ (x : Nat) (y : Int) (l : List (Int × Int)) (v : Value), k = p.size - x ∧ x ≤ p.size ∧ l.length ≤ x ∧ Rd wr g p x y ∧ But (One g) w wr ∧
    wr.heap[w.heap.size]? = some (.cells #[.bool no] 4 (0, 0)) ∧ wr.heap[w.heap.size + 1]? = some (.cells #[v] 151 (0, 0)) ∧
    wr.ownsRow (w.heap.size + 2) 153 2 v l.length (spanCells l) ∧ classGo p fr x y l = F
theorem goes_lt {p : ByteArray} {x : Nat} (h : goes p x = true) : x < p.size := by
  have h' : x < p.size ∧ bt p x ≠ 93 := by simpa [goes] using h
  exact h'.1
theorem dash_lt {p : ByteArray} {x : Nat} (h : dash p x = true) : x + 1 < p.size := by
  have h' : x + 1 < p.size ∧ bt p x = 45 ∧ bt p (x + 1) ≠ 93 := by simpa [dash] using h
  exact h'.1
theorem notAt_lt {p : ByteArray} {x : Nat} (h : notAt p x = true) : x < p.size := by
  have h' : x < p.size ∧ bt p x = 33 := by simpa [notAt] using h
  exact h'.1
def stA (p : ByteArray) (x : Nat) : Nat := if dash p (byteA p x) then byteA p (byteA p x + 1) else byteA p x
def stB (p : ByteArray) (x : Nat) (y : Int) : Int := if dash p (byteA p x) then byteB p (byteA p x + 1) (byteB p x y) else byteB p x y
def stH (p : ByteArray) (x : Nat) : Int := if dash p (byteA p x) then byteV p (byteA p x + 1) else byteV p x
theorem byteV_range (p : ByteArray) (x : Nat) : 0 ≤ byteV p x ∧ byteV p x ≤ 255 := by
  have h1 := bt_range p x
  have h2 := bt_range p (x + 1)
  unfold byteV
  split
  · split
    · omega
    · exact h2
  · exact h1
theorem classGo_go (p : ByteArray) (fr x : Nat) (y : Int) (l : List (Int × Int)) (h : goes p x = true) :
    classGo p fr x y l = classGo p fr (stA p x) (if stH p x < byteV p x then wrongAt (stB p x y) fr else stB p x y) (l ++ [(byteV p x, stH p x)]) := by
  have h' : x < p.size ∧ bt p x ≠ 93 := by simpa [goes] using h
  rw [classGo, dif_pos h']
  by_cases hd : dash p (byteA p x) = true
  · have hd' : byteA p x + 1 < p.size ∧ bt p (byteA p x) = 45 ∧ bt p (byteA p x + 1) ≠ 93 := by simpa [dash] using hd
    rw [if_pos hd']
    unfold stA stB stH
    rw [if_pos hd, if_pos hd, if_pos hd]
  · have hd' : ¬ (byteA p x + 1 < p.size ∧ bt p (byteA p x) = 45 ∧ bt p (byteA p x + 1) ≠ 93) := by simpa [dash] using hd
    rw [if_neg hd']
    unfold stA stB stH
    rw [if_neg hd, if_neg hd, if_neg hd, if_neg (Int.lt_irrefl _)]
theorem classGo_stop (p : ByteArray) (fr x : Nat) (y : Int) (l : List (Int × Int)) (h : goes p x = false) : classGo p fr x y l = (x, y, l) := by
  have h' : ¬ (x < p.size ∧ bt p x ≠ 93) := by simpa [goes] using h
  rw [classGo, dif_neg h']
theorem stA_lt (p : ByteArray) (x : Nat) : x < stA p x := by
  have h1 := byteA_lt p x
  have h2 := byteA_lt p (byteA p x + 1)
  unfold stA
  split <;> omega
theorem stA_le (p : ByteArray) (x : Nat) (h : x < p.size) : stA p x ≤ p.size := by
  have h1 := byteA_le p x h
  unfold stA
  split
  · rename_i hd
    have hd' : byteA p x + 1 < p.size ∧ bt p (byteA p x) = 45 ∧ bt p (byteA p x + 1) ≠ 93 := by simpa [dash] using hd
    exact byteA_le p _ hd'.1
  · exact h1
def classBad (p : ByteArray) (fr : Nat) (F : Nat × Int × List (Int × Int)) : Int := if p.size ≤ F.1 ∨ F.2.2 = [] then wrongAt F.2.1 fr else F.2.1
theorem classBad_no {p : ByteArray} {fr x : Nat} {y : Int} {l : List (Int × Int)} (h1 : x < p.size) (h2 : 0 < l.length) : classBad p fr (x, y, l) = y :=
  if_neg (fun h => by
    rcases h with h | h
    · have h' : p.size ≤ x := h
      omega
    · have h' : l = [] := h
      rw [h'] at h2
      simp at h2)
theorem classBad_yes {p : ByteArray} {fr x : Nat} {y : Int} {l : List (Int × Int)} (h : p.size ≤ x ∨ l = []) : classBad p fr (x, y, l) = wrongAt y fr := if_pos h
theorem class_end {w wz : World} {g : Nat} {p : ByteArray} {x : Nat} {yb : Int} {no : Bool} {v : Value} {l : List (Int × Int)} (hg : g < w.heap.size) (hb : But (One g) w wz) (hr : Rd wz g p x yb)
    (m1 : wz.heap[w.heap.size + 1]? = some (.cells #[v] 151 (0, 0))) (m2 : wz.heap[w.heap.size]? = some (.cells #[.bool no] 4 (0, 0)))
    (m3 : wz.ownsRow (w.heap.size + 2) 153 2 v l.length (spanCells l)) (hlen : l.length ≤ 1000) (F : Nat × Int × List (Int × Int)) (hF : (x, (F.2.1), l) = F) (B : Int) (hB : B = yb) :
    But (One g) w (wz.setCell ⟨g, 1, none⟩ (.int .i64 ((x : Int) + 1))) ∧ Rd (wz.setCell ⟨g, 1, none⟩ (.int .i64 ((x : Int) + 1))) g p ((F.1 + 1 : Nat) : Int) B ∧
    Fits (wz.setCell ⟨g, 1, none⟩ (.int .i64 ((x : Int) + 1))) (.func (.func 108) #[] #[.pointer (some ⟨w.heap.size + 1, 0, none⟩), .pointer (some ⟨w.heap.size, 0, none⟩)]) (classL F.2.2 no) := by
  subst hB
  rw [← hF]
  refine ⟨hb.set1 _ _, hr.set1 _, ?_⟩
  exact class_fits _ _ _ (w.heap.size + 2) v l no (blkfar m1 (by simp only; omega) _) (blkfar m2 (by simp only; omega) _) (own_at m3 (fun k hk => Below.heap_setCell _ _ _ _ (by have := (m3.lt k hk).1; simp only; omega))) hlen
set_option maxHeartbeats 8000000 in
theorem class0 (g : Nat) (p : ByteArray) (a : Nat) (b : Int) (w : World) (h : Rd w g p a b) (hp : p.size ≤ 256) (ha : a ≤ p.size) (ha1 : 1 ≤ a)
    (no : Bool) (hno : notAt p (a) = no) (F : Nat × Int × List (Int × Int)) (hF : classGo p (a - 1) (if no then a + 1 else a) b [] = F) :
    Calls Try.prog 102 #[.pointer (some ⟨g, 0, none⟩)] w fun e w' => ∃ f, e = .returned f ∧ But (One g) w w' ∧ Rd w' g p (F.1 + 1 : Nat) (classBad p (a - 1) F) ∧ Fits w' f (classL F.2.2 no) ∧ ∃ n cp, f = .func (.func n) #[] cp := by
  have HF := Lib.hid hF
  clear hF
  have h0 := h.c0
  have h1 := h.c1
  have hp' : p.size ≤ 1000 := by omega
  have hg := h.lt
  go_enter Try.func102, Try.ntmps102
  go_upto_region 2 with (fail)
  go_cut [3, 4] (fun v3 v4 wc => v3 = .int .i64 ((a : Int) - 1) ∧ v4 = .pointer (some ⟨w.heap.size, 0, none⟩) ∧ Rd wc g p (a : Int) b ∧ But (One g) w wc ∧ wc.heap[w.heap.size]? = some (.cells #[.bool no] 4 (0, 0)) ∧ wc.heap.size = w.heap.size + 1)
  case first =>
    have hfin : ∀ n, Rd (((w.alloc (.cells #[.bool no] 4))).drewN n) g p (a : Int) b ∧ But (One g) w (((w.alloc (.cells #[.bool no] 4))).drewN n) ∧ (((w.alloc (.cells #[.bool no] 4))).drewN n).heap[w.heap.size]? = some (.cells #[.bool no] 4 (0, 0)) ∧ (((w.alloc (.cells #[.bool no] 4))).drewN n).heap.size = w.heap.size + 1 :=
      fun n => ⟨(h.alloc _).drewN n, ((But.refl _ _).alloc _).drewN n, heap_alloc_new _ _, by simp⟩
    have HFin := Lib.hid hfin
    clear hfin
    by_cases hlt : a < p.size
    · have hbt := bt_at p (a) hlt
      have hno' : (bt p (a) == 33) = no := by rw [← hno]; simp [notAt, hlt]
      go_region_held3 (fun w' => w'.cell? ⟨g, 0, none⟩ = some (.string p) ∧ w'.cell? ⟨g, 1, none⟩ = some (.int .i64 (a : Int))) (first | go_keep | exact ⟨(Rd.far (q := ⟨w.heap.size, 0, none⟩) (Rd.drewN (Rd.alloc h _) _) (Nat.ne_of_lt hg) _).c0, (Rd.far (q := ⟨w.heap.size, 0, none⟩) (Rd.drewN (Rd.alloc h _) _) (Nat.ne_of_lt hg) _).c1⟩) (first | (go_at_call 99; refine (end_no g p (a : Int) b _ (by first | exact h.drew | exact (h.drew).alloc _ | exact h.alloc _) hp' (by omega)).mono ?_; rintro e w1 ⟨rfl, n, rfl⟩))
      all_goals
        go_wp2
        go_meet
        case rel => exact ⟨rfl, rfl, HFin.out _⟩
    · obtain rfl : no = false := by rw [← hno]; simp [notAt, hlt]
      refine wp_region_held_drew (S := fun _ => True) (by kernel_rfl) trivial (fun _ => ?_)
      refine wpAnyH_take (i := 0) rfl (by kernel_rfl) (by kernel_rfl) (by kernel_rfl) (fun _ _ _ h => h) (Or.inl ⟨by kernel_rfl, fun w _ => by go_simp <;> (with_reducible rfl)⟩) trivial ?_
      try simp only [Act.put, List.setIfInBounds_toArray, List.set_cons_zero, List.set_cons_succ]
      refine wpAnyH_ready (rs := [1, 15]) (by kernel_rfl) (by simp) (AllReadyH.cons rfl (fun K hK => ?_) (AllReadyH.cons rfl (fun K hK => ?_) AllReadyH.nil))
      · rw [if_pos (by kernel_rfl)]
        go_simp
        refine (end_yes g p (a : Int) b _ (by first | exact h.drew | exact (h.drew).alloc _ | exact h.alloc _) hp' (by omega)).mono ?_
        rintro e w1 ⟨rfl, n, rfl⟩
        simp only []
        refine hK.out _ _ trivial (fun _ => ?_)
        try simp only [Act.put, List.setIfInBounds_toArray, List.set_cons_zero, List.set_cons_succ]
        refine wpAnyH_take (i := 2) rfl (by kernel_rfl) (by kernel_rfl) (by kernel_rfl) (fun _ _ _ h => h) (Or.inl ⟨by kernel_rfl, fun w _ => by go_simp <;> (with_reducible rfl)⟩) trivial ?_
        try simp only [Act.put, List.setIfInBounds_toArray, List.set_cons_zero, List.set_cons_succ]
        refine wpAnyH_take (i := 3) rfl (by kernel_rfl) (by kernel_rfl) (by kernel_rfl) (fun _ _ _ h => h) (Or.inl ⟨by kernel_rfl, fun w _ => by go_simp <;> (with_reducible rfl)⟩) trivial ?_
        try simp only [Act.put, List.setIfInBounds_toArray, List.set_cons_zero, List.set_cons_succ]
        refine wpAnyH_take (i := 4) (v := undef) rfl (by kernel_rfl) (by kernel_rfl) (by kernel_rfl) (fun _ _ _ h => h) (Or.inr ⟨by kernel_rfl, rfl⟩) trivial ?_
        try simp only [Act.put, List.setIfInBounds_toArray, List.set_cons_zero, List.set_cons_succ]
        refine wpAnyH_take (i := 5) (v := undef) rfl (by kernel_rfl) (by kernel_rfl) (by kernel_rfl) (fun _ _ _ h => h) (Or.inr ⟨by kernel_rfl, rfl⟩) trivial ?_
        try simp only [Act.put, List.setIfInBounds_toArray, List.set_cons_zero, List.set_cons_succ]
        refine wpAnyH_take (i := 6) (v := undef) rfl (by kernel_rfl) (by kernel_rfl) (by kernel_rfl) (fun _ _ _ h => h) (Or.inr ⟨by kernel_rfl, rfl⟩) trivial ?_
        try simp only [Act.put, List.setIfInBounds_toArray, List.set_cons_zero, List.set_cons_succ]
        refine wpAnyH_take (i := 7) (v := undef) rfl (by kernel_rfl) (by kernel_rfl) (by kernel_rfl) (fun _ _ _ h => h) (Or.inr ⟨by kernel_rfl, rfl⟩) trivial ?_
        try simp only [Act.put, List.setIfInBounds_toArray, List.set_cons_zero, List.set_cons_succ]
        refine wpAnyH_take (i := 8) (v := undef) rfl (by kernel_rfl) (by kernel_rfl) (by kernel_rfl) (fun _ _ _ h => h) (Or.inr ⟨by kernel_rfl, rfl⟩) trivial ?_
        try simp only [Act.put, List.setIfInBounds_toArray, List.set_cons_zero, List.set_cons_succ]
        refine wpAnyH_take (i := 9) (v := undef) rfl (by kernel_rfl) (by kernel_rfl) (by kernel_rfl) (fun _ _ _ h => h) (Or.inr ⟨by kernel_rfl, rfl⟩) trivial ?_
        try simp only [Act.put, List.setIfInBounds_toArray, List.set_cons_zero, List.set_cons_succ]
        refine wpAnyH_take (i := 10) (v := undef) rfl (by kernel_rfl) (by kernel_rfl) (by kernel_rfl) (fun _ _ _ h => h) (Or.inr ⟨by kernel_rfl, rfl⟩) trivial ?_
        try simp only [Act.put, List.setIfInBounds_toArray, List.set_cons_zero, List.set_cons_succ]
        refine wpAnyH_take (i := 11) (v := undef) rfl (by kernel_rfl) (by kernel_rfl) (by kernel_rfl) (fun _ _ _ h => h) (Or.inr ⟨by kernel_rfl, rfl⟩) trivial ?_
        try simp only [Act.put, List.setIfInBounds_toArray, List.set_cons_zero, List.set_cons_succ]
        refine wpAnyH_take (i := 12) (v := undef) rfl (by kernel_rfl) (by kernel_rfl) (by kernel_rfl) (fun _ _ _ h => h) (Or.inr ⟨by kernel_rfl, rfl⟩) trivial ?_
        try simp only [Act.put, List.setIfInBounds_toArray, List.set_cons_zero, List.set_cons_succ]
        refine wpAnyH_take (i := 13) (v := undef) rfl (by kernel_rfl) (by kernel_rfl) (by kernel_rfl) (fun _ _ _ h => h) (Or.inr ⟨by kernel_rfl, rfl⟩) trivial ?_
        try simp only [Act.put, List.setIfInBounds_toArray, List.set_cons_zero, List.set_cons_succ]
        refine wpAnyH_take (i := 14) rfl (by kernel_rfl) (by kernel_rfl) (by kernel_rfl) (fun _ _ _ h => h) (Or.inl ⟨by kernel_rfl, fun w _ => by go_simp <;> (with_reducible rfl)⟩) trivial ?_
        try simp only [Act.put, List.setIfInBounds_toArray, List.set_cons_zero, List.set_cons_succ]
        refine wpAnyH_ready (rs := [15]) (by kernel_rfl) (by simp) (AllReadyH.cons rfl (fun K hK => ?_) AllReadyH.nil)
        rw [if_pos (by kernel_rfl)]
        go_simp
        refine hK.out _ _ trivial (fun _ => ?_)
        try simp only [Act.put, List.setIfInBounds_toArray, List.set_cons_zero, List.set_cons_succ]
        refine wpAnyH_ready (rs := [16]) (by kernel_rfl) (by simp) (AllReadyH.cons rfl (fun K hK => ?_) AllReadyH.nil)
        rw [if_pos (by kernel_rfl)]
        go_simp
        refine hK.out _ _ trivial (fun _ => ?_)
        try simp only [Act.put, List.setIfInBounds_toArray, List.set_cons_zero, List.set_cons_succ]
        refine wpAnyH_done (by kernel_rfl) ?_ _
        go_wp2
        go_meet
        case rel => exact ⟨rfl, rfl, HFin.out _⟩
      · rw [if_pos (by kernel_rfl)]
        go_simp
        refine hK.out _ _ trivial (fun _ => ?_)
        try simp only [Act.put, List.setIfInBounds_toArray, List.set_cons_zero, List.set_cons_succ]
        refine wpAnyH_ready (rs := [1]) (by kernel_rfl) (by simp) (AllReadyH.cons rfl (fun K hK => ?_) AllReadyH.nil)
        rw [if_pos (by kernel_rfl)]
        go_simp
        refine (end_yes g p (a : Int) b _ (by first | exact h.drew | exact (h.drew).alloc _ | exact h.alloc _) hp' (by omega)).mono ?_
        rintro e w1 ⟨rfl, n, rfl⟩
        simp only []
        refine hK.out _ _ trivial (fun _ => ?_)
        try simp only [Act.put, List.setIfInBounds_toArray, List.set_cons_zero, List.set_cons_succ]
        refine wpAnyH_take (i := 2) rfl (by kernel_rfl) (by kernel_rfl) (by kernel_rfl) (fun _ _ _ h => h) (Or.inl ⟨by kernel_rfl, fun w _ => by go_simp <;> (with_reducible rfl)⟩) trivial ?_
        try simp only [Act.put, List.setIfInBounds_toArray, List.set_cons_zero, List.set_cons_succ]
        refine wpAnyH_take (i := 3) rfl (by kernel_rfl) (by kernel_rfl) (by kernel_rfl) (fun _ _ _ h => h) (Or.inl ⟨by kernel_rfl, fun w _ => by go_simp <;> (with_reducible rfl)⟩) trivial ?_
        try simp only [Act.put, List.setIfInBounds_toArray, List.set_cons_zero, List.set_cons_succ]
        refine wpAnyH_take (i := 4) (v := undef) rfl (by kernel_rfl) (by kernel_rfl) (by kernel_rfl) (fun _ _ _ h => h) (Or.inr ⟨by kernel_rfl, rfl⟩) trivial ?_
        try simp only [Act.put, List.setIfInBounds_toArray, List.set_cons_zero, List.set_cons_succ]
        refine wpAnyH_take (i := 5) (v := undef) rfl (by kernel_rfl) (by kernel_rfl) (by kernel_rfl) (fun _ _ _ h => h) (Or.inr ⟨by kernel_rfl, rfl⟩) trivial ?_
        try simp only [Act.put, List.setIfInBounds_toArray, List.set_cons_zero, List.set_cons_succ]
        refine wpAnyH_take (i := 6) (v := undef) rfl (by kernel_rfl) (by kernel_rfl) (by kernel_rfl) (fun _ _ _ h => h) (Or.inr ⟨by kernel_rfl, rfl⟩) trivial ?_
        try simp only [Act.put, List.setIfInBounds_toArray, List.set_cons_zero, List.set_cons_succ]
        refine wpAnyH_take (i := 7) (v := undef) rfl (by kernel_rfl) (by kernel_rfl) (by kernel_rfl) (fun _ _ _ h => h) (Or.inr ⟨by kernel_rfl, rfl⟩) trivial ?_
        try simp only [Act.put, List.setIfInBounds_toArray, List.set_cons_zero, List.set_cons_succ]
        refine wpAnyH_take (i := 8) (v := undef) rfl (by kernel_rfl) (by kernel_rfl) (by kernel_rfl) (fun _ _ _ h => h) (Or.inr ⟨by kernel_rfl, rfl⟩) trivial ?_
        try simp only [Act.put, List.setIfInBounds_toArray, List.set_cons_zero, List.set_cons_succ]
        refine wpAnyH_take (i := 9) (v := undef) rfl (by kernel_rfl) (by kernel_rfl) (by kernel_rfl) (fun _ _ _ h => h) (Or.inr ⟨by kernel_rfl, rfl⟩) trivial ?_
        try simp only [Act.put, List.setIfInBounds_toArray, List.set_cons_zero, List.set_cons_succ]
        refine wpAnyH_take (i := 10) (v := undef) rfl (by kernel_rfl) (by kernel_rfl) (by kernel_rfl) (fun _ _ _ h => h) (Or.inr ⟨by kernel_rfl, rfl⟩) trivial ?_
        try simp only [Act.put, List.setIfInBounds_toArray, List.set_cons_zero, List.set_cons_succ]
        refine wpAnyH_take (i := 11) (v := undef) rfl (by kernel_rfl) (by kernel_rfl) (by kernel_rfl) (fun _ _ _ h => h) (Or.inr ⟨by kernel_rfl, rfl⟩) trivial ?_
        try simp only [Act.put, List.setIfInBounds_toArray, List.set_cons_zero, List.set_cons_succ]
        refine wpAnyH_take (i := 12) (v := undef) rfl (by kernel_rfl) (by kernel_rfl) (by kernel_rfl) (fun _ _ _ h => h) (Or.inr ⟨by kernel_rfl, rfl⟩) trivial ?_
        try simp only [Act.put, List.setIfInBounds_toArray, List.set_cons_zero, List.set_cons_succ]
        refine wpAnyH_take (i := 13) (v := undef) rfl (by kernel_rfl) (by kernel_rfl) (by kernel_rfl) (fun _ _ _ h => h) (Or.inr ⟨by kernel_rfl, rfl⟩) trivial ?_
        try simp only [Act.put, List.setIfInBounds_toArray, List.set_cons_zero, List.set_cons_succ]
        refine wpAnyH_take (i := 14) rfl (by kernel_rfl) (by kernel_rfl) (by kernel_rfl) (fun _ _ _ h => h) (Or.inl ⟨by kernel_rfl, fun w _ => by go_simp <;> (with_reducible rfl)⟩) trivial ?_
        try simp only [Act.put, List.setIfInBounds_toArray, List.set_cons_zero, List.set_cons_succ]
        refine wpAnyH_ready (rs := [16]) (by kernel_rfl) (by simp) (AllReadyH.cons rfl (fun K hK => ?_) AllReadyH.nil)
        rw [if_pos (by kernel_rfl)]
        go_simp
        refine hK.out _ _ trivial (fun _ => ?_)
        try simp only [Act.put, List.setIfInBounds_toArray, List.set_cons_zero, List.set_cons_succ]
        refine wpAnyH_done (by kernel_rfl) ?_ _
        go_wp2
        go_meet
        case rel => exact ⟨rfl, rfl, HFin.out _⟩
  case rest =>
    obtain ⟨rfl, rfl, hr, hbut, hcn, hsz⟩ := hcut
    have hno' := hno
    clear h h0 h1 hno
    obtain ⟨wo, rfl⟩ : ∃ wo : World, wo = wc := ⟨_, rfl⟩
    have hx1 : (if no then a + 1 else a) ≤ p.size ∧ a ≤ (if no then a + 1 else a) := by
      cases no with
      | false => exact ⟨ha, Nat.le_refl _⟩
      | true => exact ⟨notAt_lt hno', Nat.le_succ _⟩
    generalize hx : (if no then a + 1 else a) = x0 at *
    have hc27 := cell_of_one hcn
    have hrc1 := hr.c1
    have hrf1 := hr.fr 1
    go_upto_if 27 with (fail)
    go_cut [] (fun wc => Rd wc g p (x0 : Int) b ∧ But (One g) w wc ∧ wc.heap[w.heap.size]? = some (.cells #[.bool no] 4 (0, 0)) ∧ wc.heap.size = w.heap.size + 1)
    case first =>
      cases no
      · obtain rfl : a = x0 := hx
        go_wp2
        go_meet
        case rel => exact ⟨hr, hbut, hcn, hsz⟩
      · obtain rfl : a + 1 = x0 := hx
        go_wp2
        go_meet
        case rel => exact ⟨hr.set1 _, hbut.set1 _ _, blkfar hcn (Nat.ne_of_gt hg) _, by simpa [World.setCell] using hsz⟩
    case rest =>
      obtain ⟨hr2, hbut2, hcn2, hsz2⟩ := hcut
      clear hr hbut hcn hsz hc27 hrc1 hrf1
      obtain ⟨wi, rfl⟩ : ∃ wi : World, wi = wc := ⟨_, rfl⟩
      have hcn2' := hcn2
      rw [show w.heap.size = wi.heap.size - 1 from by omega] at hcn2'
      go_upto_block 0 with (fail)

      go_cut [] (fun wc => ∃ (x : Nat) (y : Int) (l : List (Int × Int)) (v : Value), x ≤ p.size ∧ l.length ≤ x ∧ Rd wc g p x y ∧ But (One g) w wc ∧
        wc.heap[w.heap.size]? = some (.cells #[.bool no] 4 (0, 0)) ∧ wc.heap[w.heap.size + 1]? = some (.cells #[v] 151 (0, 0)) ∧
        wc.ownsRow (w.heap.size + 2) 153 2 v l.length (spanCells l) ∧ (x, y, l) = F)
      case first =>
        go_wp2_with fail
        go_loopg [] (p.size - x0) (fun k wr => ClassAt w g p (a - 1) no F k wr)
        case atStart =>
          refine ⟨x0, b, [], .slice none 0 0, rfl, hx1.1, Nat.zero_le _, hr2.alloc _, hbut2.alloc _, blkold hcn2 _, ?_, World.ownsRow_nil _ _ _ _, ?_⟩
          · rw [← hsz2]
            exact heap_alloc_new wi _
          · exact HF.out
        case round =>
          obtain ⟨x, y, l, v, hkx, hxle, hll, hr3, hb3, hn3, hs3, ho3, hF3⟩ := hrel
          have HF3 := Lib.hid hF3
          have HKX := Lib.hid hkx
          have HHF := HF
          clear hF3 hkx HF
          go_upto_region 6 with (fail)
          go_cut [49] (fun v49 wc => v49 = .bool (goes p x) ∧ ∃ n, wc = wr.drewN n)
          case first =>
            have h0 := hr3.c0
            have h1 := hr3.c1
            by_cases hlt : x < p.size
            · have hbt := bt_at p x hlt
              have E := Lib.hid (show goes p x = (bt p x != 93) from by simp [goes, hlt])
              go_quiet ((go_at_call 99; exact Calls.quiet_of (end_no g p x y _ (hr3.drewN _) hp' (by omega))))
              go_wp2
              go_meet
              case rel => exact ⟨by rw [E.out], _, rfl⟩
            · have E := Lib.hid (show goes p x = false from by simp [goes, hlt])
              go_quiet ((go_at_call 99; exact Calls.quiet_of (end_yes g p x y _ (hr3.drewN _) hp' (by omega))))
              go_wp2
              go_meet
              case rel => exact ⟨by rw [E.out], _, rfl⟩
          case rest =>
            obtain ⟨rfl, nq, rfl⟩ := hcut
            cases hgo : goes p x with
            | false =>
              have HS := Lib.hid (classGo_stop p (a - 1) x y l hgo)
              clear hgo
              go_wp2
              go_meet
              case rel => exact ⟨x, y, l, v, hxle, hll, hr3.drewN _, hb3.drewN _, hn3, hs3, ho3, HS.out.symm.trans HF3.out⟩
            | true =>
              have hlt : x < p.size := goes_lt hgo
              have HG := Lib.hid (classGo_go p (a - 1) x y l hgo)
              clear hgo
              go_upto_region 9 with (fail)
              refine (byte_ g p x y _ ((hr3.alloc _).drewN _) hp' hlt).mono ?_
              rintro e w1 ⟨rfl, hbb, hrr⟩
              have hne6 : ¬ One g wr.heap.size := fun e => by have := hr3.lt; unfold One at e; omega
              have hb6 : w1.heap[wr.heap.size]? = some (.cells #[.int .u8 0, .int .u8 0] 153 (0, 0)) := (hbb.block wr.heap.size (by simp) hne6).trans (heap_alloc_new wr _)
              have hbw : But (One g) wr w1 := (((But.refl _ _).alloc _).drewN _).trans_ hbb (fun b _ h => h)
              have k0 := blkcell hb6 0 (by simp)
              have k1 := blkcell hb6 1 (by simp)
              have kf0 := blkfree hb6 0
              have kf1 := blkfree hb6 1
              simp only [List.getElem_toArray, List.getElem_cons_zero, List.getElem_cons_succ] at k0 k1
              clear hbb
              go_upto_region 9 with (fail)
              go_cut [] (fun wc => Rd wc g p (byteA p x : Nat) (byteB p x y) ∧ But (One g) wr wc ∧ wc.heap[wr.heap.size]? = some (.cells #[.int .u8 (byteV p x), .int .u8 (byteV p x)] 153 (0, 0)))
              case first =>
                have hgn : g ≠ wr.heap.size := fun e => hne6 e.symm
                go_wp2
                go_meet
                case rel =>
                  refine ⟨Rd.far (Rd.far hrr hgn _) hgn _, But.setCell (But.setCell hbw (.inr (Nat.le_refl _)) _) (.inr (Nat.le_refl _)) _, ?_⟩
                  have := blkset (blkset hb6 0 (.int .u8 (byteV p x))) 1 (.int .u8 (byteV p x))
                  simpa using this
              case rest =>
                clear k0 k1 kf0 kf1 hb6 hrr hbw
                obtain ⟨hr9, hb9, hs9⟩ := hcut
                obtain ⟨w9, rfl⟩ : ∃ w9 : World, w9 = wc := ⟨_, rfl⟩
                have hx9 := byteA_le p x hlt
                generalize hA9 : byteA p x = x9 at *
                generalize hB9 : byteB p x y = y9 at *
                generalize hV9 : byteV p x = lo at *
                have HA9 := Lib.hid hA9
                have HB9 := Lib.hid hB9
                have HV9 := Lib.hid hV9
                clear hA9 hB9 hV9
                go_upto_region 10 with (fail)
                go_cut [92] (fun v92 wc => v92 = .bool (dash p x9) ∧ ∃ n, wc = w9.drewN n)
                case first =>
                  have h0 := hr9.c0
                  have h1 := hr9.c1
                  by_cases h2 : x9 + 1 < p.size
                  · have hbt := bt_at p x9 (by omega)
                    have hbt1 := bt_at p (x9 + 1) h2
                    have hd2 : decide ((x9 : Int) + 1 < (p.size : Int)) = true := by simp; omega
                    cases h3 : (bt p x9 == 45) with
                    | false =>
                      have E := Lib.hid (show dash p x9 = false from by simp [dash, h3])
                      go_quiet (fail)
                      go_wp2
                      go_meet
                      case rel => exact ⟨by rw [E.out], _, rfl⟩
                    | true =>
                      have E := Lib.hid (show dash p x9 = (bt p (x9 + 1) != 93) from by simp [dash, h3, h2])
                      go_quiet (fail)
                      go_wp2
                      go_meet
                      case rel => exact ⟨by rw [E.out], _, rfl⟩
                  · have hd2 : decide ((x9 : Int) + 1 < (p.size : Int)) = false := by simp; omega
                    have E := Lib.hid (show dash p x9 = false from by simp [dash, h2])
                    go_quiet (fail)
                    go_wp2
                    go_meet
                    case rel => exact ⟨by rw [E.out], _, rfl⟩
                case rest =>
                  obtain ⟨rfl, nq9, rfl⟩ := hcut
                  go_upto_if 92 with (fail)
                  go_cut [] (fun wc => Rd wc g p (stA p x : Nat) (stB p x y) ∧ But (One g) wr wc ∧ wc.heap[wr.heap.size]? = some (.cells #[.int .u8 lo, .int .u8 (stH p x)] 153 (0, 0)))
                  case first =>
                    cases hd : dash p x9 with
                    | false =>
                      have E := Lib.hid (show stA p x = x9 ∧ stB p x y = y9 ∧ stH p x = lo from by unfold stA stB stH; rw [HA9.out, HB9.out, HV9.out]; simp [hd])
                      clear hd
                      go_wp2
                      go_meet
                      case rel => rw [E.out.1, E.out.2.1, E.out.2.2]; exact ⟨hr9.drewN _, hb9.drewN _, hs9⟩
                    | true =>
                      have hdl := dash_lt hd
                      have E := Lib.hid (show stA p x = byteA p (x9 + 1) ∧ stB p x y = byteB p (x9 + 1) y9 ∧ stH p x = byteV p (x9 + 1) from by unfold stA stB stH; rw [HA9.out, HB9.out]; simp [hd])
                      clear hd
                      have h0 := hr9.c0
                      have h1 := hr9.c1
                      have f1 := hr9.fr 1
                      have hr10 := hr9.set1 ((x9 + 1 : Nat) : Int)
                      go_wp2_with fail
                      refine (byte_ g p (x9 + 1) y9 _ (by exact hr10.drewN _) hp' hdl).mono ?_
                      rintro e w1 ⟨rfl, hbb, hrr⟩
                      have hb6 : w1.heap[wr.heap.size]? = some (.cells #[.int .u8 lo, .int .u8 lo] 153 (0, 0)) := (hbb.block wr.heap.size (by simpa [World.setCell] using lt_of_block hs9) hne6).trans (blkfar (p := ⟨g, 1, none⟩) hs9 hne6 _)
                      have hbw : But (One g) wr w1 := hb9.trans (((But.refl (One g) w9).set1 1 _).drewN nq9 |>.trans hbb)
                      have k1 := blkcell hb6 1 (by simp)
                      have kf1 := blkfree hb6 1
                      have hgn : g ≠ wr.heap.size := fun e => hne6 e.symm
                      clear hbb
                      go_wp2_with fail
                      go_meet
                      case rel =>
                        rw [E.out.1, E.out.2.1, E.out.2.2]
                        refine ⟨Rd.far hrr hgn _, But.setCell hbw (.inr (Nat.le_refl _)) _, ?_⟩
                        have := blkset hb6 1 (.int .u8 (byteV p (x9 + 1)))
                        simpa using this
                  case rest =>
                    obtain ⟨hr12, hb12, hs12⟩ := hcut
                    obtain ⟨wv, rfl⟩ : ∃ wv : World, wv = wc := ⟨_, rfl⟩
                    have hVr := byteV_range p x
                    have hl1 := stA_lt p x
                    have hl2 := stA_le p x hlt
                    clear hr9 hb9 hs9 hx9
                    generalize hA12 : stA p x = x12 at *
                    generalize hB12 : stB p x y = y12 at *
                    generalize hH12 : stH p x = hi at *
                    rw [HV9.out] at hVr
                    have hc0 := blkcell hs12 0 (by simp)
                    have hc1 := blkcell hs12 1 (by simp)
                    simp only [List.getElem_toArray, List.getElem_cons_zero, List.getElem_cons_succ] at hc0 hc1
                    go_upto_if 107 with (fail)
                    go_cut [] (fun wc => Rd wc g p (x12 : Nat) (if hi < lo then wrongAt y12 ((a - 1 : Nat) : Int) else y12) ∧ But (One g) wr wc ∧ wc.heap[wr.heap.size]? = some (.cells #[.int .u8 lo, .int .u8 hi] 153 (0, 0)))
                    case first =>
                      by_cases hlh : hi < lo
                      · have E := Lib.hid (show (if hi < lo then wrongAt y12 ((a - 1 : Nat) : Int) else y12) = wrongAt y12 ((a - 1 : Nat) : Int) from if_pos hlh)
                        have E2 := Lib.hid (show ((a : Int) - 1) = ((a - 1 : Nat) : Int) from by omega)
                        go_wp2_with fail
                        refine (wrong g p x12 y12 ((a : Int) - 1) _ hr12).mono ?_
                        rintro e w1 ⟨rfl, hbb, hrr⟩
                        go_wp2_with fail
                        go_meet
                        case rel =>
                          rw [E.out, ← E2.out]
                          exact ⟨hrr, hb12.trans hbb, (hbb.block _ (lt_of_block hs12) hne6).trans hs12⟩
                      · have E := Lib.hid (show (if hi < lo then wrongAt y12 ((a - 1 : Nat) : Int) else y12) = y12 from if_neg hlh)
                        go_wp2_with fail
                        go_meet
                        case rel =>
                          rw [E.out]
                          exact ⟨hr12, hb12, hs12⟩
                    case rest =>
                      clear hr12 hb12 hs12 hc0 hc1
                      obtain ⟨hr13, hb13, hs13⟩ := hcut
                      obtain ⟨wu, rfl⟩ : ∃ wu : World, wu = wc := ⟨_, rfl⟩
                      have hs3u : wu.heap[w.heap.size + 1]? = some (.cells #[v] 151 (0, 0)) := (hb13.block _ (lt_of_block hs3) (fun e => by unfold One at e; omega)).trans hs3
                      have hn3u : wu.heap[w.heap.size]? = some (.cells #[.bool no] 4 (0, 0)) := (hb13.block _ (lt_of_block hn3) (fun e => by unfold One at e; omega)).trans hn3
                      have ho3u := own_but ho3 hb13 (fun k h1 _ e => by unfold One at e; omega)
                      have hb3u : But (One g) w wu := hb3.trans hb13
                      obtain ⟨i0, hi0, hz0, hz1, hz2⟩ := info_parts infoSpan
                      have hc5 := cell_of_one hs3u
                      have hf5 := free_of_one hs3u
                      have hc0 := blkcell hs13 0 (by simp)
                      have hc1 := blkcell hs13 1 (by simp)
                      simp only [List.getElem_toArray, List.getElem_cons_zero, List.getElem_cons_succ] at hc0 hc1
                      have hgu := hr13.lt
                      have hlen : l.length + 1 ≤ 1000 := by omega
                      obtain ⟨A0, c0, rfl⟩ := own_slice ho3u
                      go_wp2_with (at_builtin; refine wpList_append_own _ rfl _ _ 151 rfl (w.heap.size + 2) 153 i0 (.agg #[.int .u8 0, .int .u8 0]) 2 2 Try.underlying151 hi0 hz0 hz1 hz2 rfl (by decide) _ _ _ rfl (ho3u.alloc _) ⟨wu.heap.size, 0, none⟩ 1 1 [.int .u8 lo, .int .u8 hi] rfl rfl ?c1 ?c2 ?c3 ?c4 ?c5 ?_)
                      case c1 =>
                        intro j u hj
                        rcases j with _ | _ | j <;> simp at hj <;> subst hj <;> simp [Addr.add]
                      case c2 =>
                        intro u hu
                        simp at hu
                        rcases hu with rfl | rfl <;> rfl
                      case c3 => unfold maxLen; omega
                      case c4 => omega
                      case c5 => have := lt_of_block hs3u; simp; omega
                      intro v' w1 hown' hgrow _
                      obtain ⟨A1, c1, rfl⟩ := own_slice hown'
                      have q0 : Rd w1 g p (x12 : Nat) (if hi < lo then wrongAt y12 ((a - 1 : Nat) : Int) else y12) := blk_grown (base := w.heap.size + 2) (hr13.alloc _) hgrow (ho3u.alloc _) (Nat.lt_of_lt_of_le hg (Nat.le_add_right _ 2))
                      have q1 := blk_grown (blkold hs3u _) hgrow (ho3u.alloc _) (Nat.lt_succ_self _)
                      have q2 := blk_grown (base := w.heap.size + 2) (blkold hn3u _) hgrow (ho3u.alloc _) (Nat.lt_add_of_pos_right (by decide))
                      have q3 : But (One g) w w1 := (hb3u.alloc _).grow (base := w.heap.size + 2) hgrow (ho3u.alloc _) (Nat.le_add_right _ 2)
                      have qc := cell_of_one q1
                      have qf := free_of_one q1
                      clear hc0 hc1 hs13 hc5 hf5 hb3u hr13 hb13 hs3 hn3 hs3u hn3u hgrow
                      go_wp2_with fail
                      go_roundg (p.size - x12)
                      case measure => rw [HKX.out]; omega
                      case rel =>
                        refine ⟨x12, (if hi < lo then wrongAt y12 ((a - 1 : Nat) : Int) else y12), l ++ [(lo, hi)], .slice A1 (l.length + 1) c1, rfl, hl2, ?_, ?_, ?_, ?_, ?_, ?_, ?_⟩
                        · simp; omega
                        · exact Rd.far q0 (by simp only; omega) _
                        · exact But.setCell q3 (.inr (Nat.le_succ _)) _
                        · exact blkfar q2 (by simp) _
                        · exact one_setCell q1
                        · rw [List.length_append, spanCells_append]
                          exact own_at hown' (fun k hk => Below.heap_setCell _ _ _ _ (by have := (hown'.lt k hk).1; simp only; omega))
                        · exact HG.out.symm.trans HF3.out
      case rest =>
        obtain ⟨x, y, l, v, hxle, hll, hr3, hb3, hn3, hs3, ho3, hF3⟩ := hcut
        clear hr2 hbut2 hcn2 hcn2'
        obtain ⟨wr, rfl⟩ : ∃ wr : World, wr = wc := ⟨_, rfl⟩
        obtain ⟨A0, c0, rfl⟩ := own_slice ho3
        have hc5 := cell_of_one hs3
        have hlen : l.length ≤ 9223372036854775807 := by omega
        have hlen2 : l.length ≤ 1000 := by omega
        have HF3 := Lib.hid (show (x, F.2.1, l) = F from by rw [← hF3])
        rcases Nat.lt_or_ge x p.size with hsz | hsz
        · rcases Nat.eq_zero_or_pos l.length with hl0 | hl0
          · have hl0' : ((l.length : Int) == 0) = true := beq_iff_eq.2 (by omega)
            have E := Lib.hid (show classBad p (a - 1) F = wrongAt y ((a - 1 : Nat) : Int) from by rw [← hF3]; exact classBad_yes (.inr (List.eq_nil_of_length_eq_zero hl0)))
            clear hF3 hl0
            go_wp2_with fail
            refine (end_no g p x y _ hr3 hp' (by omega)).mono ?_
            rintro e w1 ⟨rfl, n, rfl⟩
            go_wp2_with fail
            refine (wrong g p x y ((a : Int) - 1) _ (hr3.drewN _)).mono ?_
            rintro e w2 ⟨rfl, hbb, hrr⟩
            have g1 := hrr.c1
            have g2 := hrr.fr 1
            have E2 := Lib.hid (show ((a : Int) - 1) = ((a - 1 : Nat) : Int) from by omega)
            have m1 := (hbb.block _ (lt_of_block hs3) (fun e => by unfold One at e; omega)).trans hs3
            have m2 := (hbb.block _ (lt_of_block hn3) (fun e => by unfold One at e; omega)).trans hn3
            have m3 := own_but (w := wr.drewN n) ho3 hbb (fun k h1 _ e => by unfold One at e; omega)
            have m4 := (hb3.drewN n).trans hbb
            have m5 := Lib.hid (class_end hg m4 hrr m1 m2 m3 hlen2 F HF3.out (classBad p (a - 1) F) (by rw [E2.out]; exact E.out))
            go_wp2_with fail
            go_ret
            exact ⟨_, rfl, m5.out.1, m5.out.2.1, m5.out.2.2, _, _, rfl⟩
          · have hl0' : ((l.length : Int) == 0) = false := beq_eq_false_iff_ne.2 (by omega)
            have E := Lib.hid (show classBad p (a - 1) F = y from by rw [← hF3]; exact classBad_no hsz hl0)
            clear hF3
            go_wp2_with fail
            refine (end_no g p x y _ hr3 hp' (by omega)).mono ?_
            rintro e w1 ⟨rfl, n, rfl⟩
            have m5 := Lib.hid (class_end hg (hb3.drewN n) (hr3.drewN n) hs3 hn3 ho3 hlen2 F HF3.out (classBad p (a - 1) F) E.out)
            have g1 := hr3.c1
            have g2 := hr3.fr 1
            go_wp2_with fail
            go_ret
            exact ⟨_, rfl, m5.out.1, m5.out.2.1, m5.out.2.2, _, _, rfl⟩
        · have E := Lib.hid (show classBad p (a - 1) F = wrongAt y ((a - 1 : Nat) : Int) from by rw [← hF3]; exact classBad_yes (.inl hsz))
          clear hF3
          go_wp2_with fail
          refine (end_yes g p x y _ hr3 hp' (by omega)).mono ?_
          rintro e w1 ⟨rfl, n, rfl⟩
          go_wp2_with fail
          refine (wrong g p x y ((a : Int) - 1) _ (hr3.drewN _)).mono ?_
          rintro e w2 ⟨rfl, hbb, hrr⟩
          have g1 := hrr.c1
          have g2 := hrr.fr 1
          have E2 := Lib.hid (show ((a : Int) - 1) = ((a - 1 : Nat) : Int) from by omega)
          have m1 := (hbb.block _ (lt_of_block hs3) (fun e => by unfold One at e; omega)).trans hs3
          have m2 := (hbb.block _ (lt_of_block hn3) (fun e => by unfold One at e; omega)).trans hn3
          have m3 := own_but (w := wr.drewN n) ho3 hbb (fun k h1 _ e => by unfold One at e; omega)
          have m4 := (hb3.drewN n).trans hbb
          have m5 := Lib.hid (class_end hg m4 hrr m1 m2 m3 hlen2 F HF3.out (classBad p (a - 1) F) (by rw [E2.out]; exact E.out))
          go_wp2_with fail
          go_ret
          exact ⟨_, rfl, m5.out.1, m5.out.2.1, m5.out.2.2, _, _, rfl⟩
end Go.Proofs.Ytoaopjbgaehpfaa.G
