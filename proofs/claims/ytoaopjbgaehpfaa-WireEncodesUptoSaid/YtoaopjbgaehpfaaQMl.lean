/- Texts of this claim, joined: words and laws that the others use. -/
import Derived.Test.YtoaopjbgaehpfaaQMa
import Derived.Test.YtoaopjbgaehpfaaQGk
section
/- Lists held against one another. -/
namespace Go.Proofs.Ytoaopjbgaehpfaa.G
open Go.RowKit
attribute [local simp, local go_sem] alloc_drewN setCell_drewN
set_option linter.unusedVariables false
set_option linter.unusedSimpArgs false
set_option maxRecDepth 100000
def eqB {α : Type} [DecidableEq α] (l m : List α) : Bool := decide (l = m)
theorem eqB_len {α : Type} [DecidableEq α] {l m : List α} (h : l.length ≠ m.length) : eqB l m = false := decide_eq_false fun e => h (by rw [e])
theorem eqB_at {α : Type} [DecidableEq α] {l m : List α} {i : Nat} (h : i < l.length) (h' : i < m.length) (hne : l[i] ≠ m[i]) : eqB l m = false := decide_eq_false fun e => hne (by subst e; rfl)
theorem eqB_all {α : Type} [DecidableEq α] {l m : List α} (h : l.length = m.length) (ht : l.take l.length = m.take l.length) : eqB l m = true := decide_eq_true (by rw [List.take_length, h, List.take_length] at ht; exact ht)
theorem take_next {α : Type} {l m : List α} {i : Nat} (h : i < l.length) (h' : i < m.length) (ht : l.take i = m.take i) (he : l[i] = m[i]) : l.take (i + 1) = m.take (i + 1) := by
  rw [List.take_succ_eq_append_getElem h, List.take_succ_eq_append_getElem h', ht, he]
theorem bytes_inj {a b : ByteArray} (h : a.toList = b.toList) : a = b := by
  rw [ByteArray.toList_eq, ByteArray.toList_eq] at h
  cases a
  cases b
  simp at h
  subst h
  rfl
theorem drewn_but {w w' : World} (h : ∃ q, w' = w.drewN q) : But No w w' := by
  obtain ⟨q, rfl⟩ := h
  exact (But.refl No w).drewN q
def SameAt {α : Type} (w : World) (l m : List α) (gk : Nat) (v : Value) (wr : World) : Prop := ∃ i : Nat, gk = l.length - i ∧ i ≤ l.length ∧ v = .int .i64 (i : Int) ∧ (∃ q, wr = w.drewN q) ∧ l.take i = m.take i
theorem El.Lies.cell {P : Program} {T Ts : TypeId} {α : Type} {E : El P T Ts α} {w : World} {A : Option Addr} {l : List α} (h : E.Lies w A l) {i : Nat} (hi : i < l.length) : ∃ ad, A = some ad ∧ ∀ j u, (E.enc l[i])[j]? = some u → w.cell? (ad.add (i * E.sz + j)) = some u := by
  obtain ⟨ad, h1, h2⟩ := h (fun e => by rw [e] at hi; exact absurd hi (Nat.not_lt_zero i))
  refine ⟨ad, h1, fun j u hj => h2 _ u ?_⟩
  have hj' : j < E.sz := by have := (List.getElem?_eq_some_iff.1 hj).1; rw [E.henc] at this; exact this
  rw [E.cells_at l i l[i] j (List.getElem?_eq_getElem hi) hj', hj]
set_option maxHeartbeats 4000000 in
theorem sameBytes0 (A A' : Option Addr) (c c' : Nat) (l m : List Int) (w : World) (h : byE.Lies w A l) (h' : byE.Lies w A' m) (hl : l.length ≤ 9223372036854775807) (hm : m.length ≤ 9223372036854775807) :
    Calls Try.prog 14 #[.slice A l.length c, .slice A' m.length c'] w fun e w' => e = .returned (.bool (eqB l m)) ∧ ∃ q, w' = w.drewN q := by
  have H := Lib.hid h
  have H' := Lib.hid h'
  clear h h'
  by_cases hlen : l.length = m.length
  case neg =>
    have hne : ((l.length : Int) != (m.length : Int)) = true := by simpa using fun e : (l.length : Int) = (m.length : Int) => hlen (by omega)
    have E := Lib.hid (eqB_len hlen)
    have hn1 : ¬ (l.length : Int) = (m.length : Int) := fun e => hlen (by omega)
    clear hlen
    go_enter Try.func14, Try.ntmps14
    go_wp2_with fail
    go_ret
    exact ⟨by rw [E.out]; rfl, 0, rfl⟩
  have HLEN := Lib.hid hlen
  obtain ⟨n, hn⟩ : ∃ n, l.length = n := ⟨_, rfl⟩
  have HN := Lib.hid hn
  rw [← hlen, hn]
  rw [hn] at hl
  clear hlen hn hm
  go_enter Try.func14, Try.ntmps14
  go_wp2_with fail
  go_loopg [5] n (fun gk v wr => SameAt w l m gk v wr)
  case atStart => exact ⟨0, by rw [HN.out]; rfl, Nat.zero_le _, rfl, ⟨0, rfl⟩, rfl⟩
  case round =>
    obtain ⟨i, hgk, hi, rfl, ⟨nd, rfl⟩, ht⟩ := hrel
    rw [HN.out] at hi hgk
    have HGK := Lib.hid hgk
    have HT := Lib.hid ht
    clear hgk ht
    by_cases hlt : i < n
    · have hil : i < l.length := by rw [HN.out]; exact hlt
      have him : i < m.length := by rw [← HLEN.out]; exact hil
      have hlt' : (i : Int) < (n : Int) := by omega
      have dl : decide ((i : Int) < (n : Int)) = true := decide_eq_true hlt'
      obtain ⟨ad, hA, k⟩ := H.out.cell hil
      obtain ⟨ad', hA', k'⟩ := H'.out.cell him
      subst hA hA'
      obtain ⟨x, hx⟩ : ∃ x, l[i] = x := ⟨_, rfl⟩
      obtain ⟨y, hy⟩ : ∃ y, m[i] = y := ⟨_, rfl⟩
      rw [hx] at k
      rw [hy] at k'
      have k0 := k 0 (.int .u8 x) rfl
      have k0' := k' 0 (.int .u8 y) rfl
      rw [show i * byE.sz + 0 = i from by show i * 1 + 0 = i; omega] at k0 k0'
      have HX := Lib.hid hx
      have HY := Lib.hid hy
      by_cases hxy : x = y
      · have HXY := Lib.hid hxy
        subst hxy
        have d1 : (x != x) = false := by simp
        have hnx := Lib.hid (take_next hil him HT.out (by rw [HX.out, HY.out, HXY.out]))
        clear hx hy k k' HX HY hil him
        go_wp2_with fail
        go_quiet (fail)
        go_wp2_with fail
        go_roundg (n - (i + 1))
        case measure => rw [HGK.out]; omega
        case rel => exact ⟨i + 1, by rw [HN.out], by rw [HN.out]; omega, by go_num, ⟨_, rfl⟩, hnx.out⟩
      · have HXY := Lib.hid hxy
        have d1 : (x != y) = true := by simpa using hxy
        clear hxy
        have E := Lib.hid (eqB_at hil him (by rw [HX.out, HY.out]; exact HXY.out))
        clear hx hy k k' HX HY hil him
        go_wp2_with fail
        go_quiet (fail)
        go_wp2_with fail
        go_ret
        exact ⟨by rw [E.out]; rfl, by first | exact ⟨_, rfl⟩ | (rw [World.drewN_drewN]; exact ⟨_, rfl⟩)⟩
    · have e0 : i = n := by omega
      have hlt' : ¬ (i : Int) < (n : Int) := by omega
      have dl : decide ((i : Int) < (n : Int)) = false := decide_eq_false hlt'
      have E := Lib.hid (eqB_all HLEN.out (by rw [HN.out, ← e0]; exact HT.out))
      clear e0
      go_wp2_with fail
      go_ret
      exact ⟨by rw [E.out]; rfl, _, rfl⟩
set_option maxHeartbeats 4000000 in
theorem sameTexts0 (A A' : Option Addr) (c c' : Nat) (l m : List ByteArray) (w : World) (h : sgE.Lies w A l) (h' : sgE.Lies w A' m) (hl : l.length ≤ 9223372036854775807) (hm : m.length ≤ 9223372036854775807) :
    Calls Try.prog 32 #[.slice A l.length c, .slice A' m.length c'] w fun e w' => e = .returned (.bool (eqB l m)) ∧ ∃ q, w' = w.drewN q := by
  have H := Lib.hid h
  have H' := Lib.hid h'
  clear h h'
  by_cases hlen : l.length = m.length
  case neg =>
    have hne : ((l.length : Int) != (m.length : Int)) = true := by simpa using fun e : (l.length : Int) = (m.length : Int) => hlen (by omega)
    have E := Lib.hid (eqB_len hlen)
    have hn1 : ¬ (l.length : Int) = (m.length : Int) := fun e => hlen (by omega)
    clear hlen
    go_enter Try.func32, Try.ntmps32
    go_wp2_with fail
    go_ret
    exact ⟨by rw [E.out]; rfl, 0, rfl⟩
  have HLEN := Lib.hid hlen
  obtain ⟨n, hn⟩ : ∃ n, l.length = n := ⟨_, rfl⟩
  have HN := Lib.hid hn
  rw [← hlen, hn]
  rw [hn] at hl
  clear hlen hn hm
  go_enter Try.func32, Try.ntmps32
  go_wp2_with fail
  go_loopg [5] n (fun gk v wr => SameAt w l m gk v wr)
  case atStart => exact ⟨0, by rw [HN.out]; rfl, Nat.zero_le _, rfl, ⟨0, rfl⟩, rfl⟩
  case round =>
    obtain ⟨i, hgk, hi, rfl, ⟨nd, rfl⟩, ht⟩ := hrel
    rw [HN.out] at hi hgk
    have HGK := Lib.hid hgk
    have HT := Lib.hid ht
    clear hgk ht
    by_cases hlt : i < n
    · have hil : i < l.length := by rw [HN.out]; exact hlt
      have him : i < m.length := by rw [← HLEN.out]; exact hil
      have hlt' : (i : Int) < (n : Int) := by omega
      have dl : decide ((i : Int) < (n : Int)) = true := decide_eq_true hlt'
      obtain ⟨ad, hA, k⟩ := H.out.cell hil
      obtain ⟨ad', hA', k'⟩ := H'.out.cell him
      subst hA hA'
      obtain ⟨x, hx⟩ : ∃ x, l[i] = x := ⟨_, rfl⟩
      obtain ⟨y, hy⟩ : ∃ y, m[i] = y := ⟨_, rfl⟩
      rw [hx] at k
      rw [hy] at k'
      have k0 := k 0 (.string x) rfl
      have k0' := k' 0 (.string y) rfl
      rw [show i * sgE.sz + 0 = i from by show i * 1 + 0 = i; omega] at k0 k0'
      have HX := Lib.hid hx
      have HY := Lib.hid hy
      by_cases hxy : x = y
      · have HXY := Lib.hid hxy
        subst hxy
        have d1 : (x.toList == x.toList) = true := beq_self_eq_true _
        have hnx := Lib.hid (take_next hil him HT.out (by rw [HX.out, HY.out, HXY.out]))
        clear hx hy k k' HX HY hil him
        go_wp2_with fail
        go_quiet (fail)
        go_wp2_with fail
        go_roundg (n - (i + 1))
        case measure => rw [HGK.out]; omega
        case rel => exact ⟨i + 1, by rw [HN.out], by rw [HN.out]; omega, by go_num, ⟨_, rfl⟩, hnx.out⟩
      · have HXY := Lib.hid hxy
        have d1 : (x.toList == y.toList) = false := by simpa using fun e => hxy (bytes_inj e)
        clear hxy
        have E := Lib.hid (eqB_at hil him (by rw [HX.out, HY.out]; exact HXY.out))
        clear hx hy k k' HX HY hil him
        go_wp2_with fail
        go_quiet (fail)
        go_wp2_with fail
        go_ret
        exact ⟨by rw [E.out]; rfl, by first | exact ⟨_, rfl⟩ | (rw [World.drewN_drewN]; exact ⟨_, rfl⟩)⟩
    · have e0 : i = n := by omega
      have hlt' : ¬ (i : Int) < (n : Int) := by omega
      have dl : decide ((i : Int) < (n : Int)) = false := decide_eq_false hlt'
      have E := Lib.hid (eqB_all HLEN.out (by rw [HN.out, ← e0]; exact HT.out))
      clear e0
      go_wp2_with fail
      go_ret
      exact ⟨by rw [E.out]; rfl, _, rfl⟩
set_option maxHeartbeats 4000000 in
theorem sameInts0 (A A' : Option Addr) (c c' : Nat) (l m : List Int) (w : World) (h : inE.Lies w A l) (h' : inE.Lies w A' m) (hl : l.length ≤ 9223372036854775807) (hm : m.length ≤ 9223372036854775807) :
    Calls Try.prog 34 #[.slice A l.length c, .slice A' m.length c'] w fun e w' => e = .returned (.bool (eqB l m)) ∧ ∃ q, w' = w.drewN q := by
  have H := Lib.hid h
  have H' := Lib.hid h'
  clear h h'
  by_cases hlen : l.length = m.length
  case neg =>
    have hne : ((l.length : Int) != (m.length : Int)) = true := by simpa using fun e : (l.length : Int) = (m.length : Int) => hlen (by omega)
    have E := Lib.hid (eqB_len hlen)
    have hn1 : ¬ (l.length : Int) = (m.length : Int) := fun e => hlen (by omega)
    clear hlen
    go_enter Try.func34, Try.ntmps34
    go_wp2_with fail
    go_ret
    exact ⟨by rw [E.out]; rfl, 0, rfl⟩
  have HLEN := Lib.hid hlen
  obtain ⟨n, hn⟩ : ∃ n, l.length = n := ⟨_, rfl⟩
  have HN := Lib.hid hn
  rw [← hlen, hn]
  rw [hn] at hl
  clear hlen hn hm
  go_enter Try.func34, Try.ntmps34
  go_wp2_with fail
  go_loopg [5] n (fun gk v wr => SameAt w l m gk v wr)
  case atStart => exact ⟨0, by rw [HN.out]; rfl, Nat.zero_le _, rfl, ⟨0, rfl⟩, rfl⟩
  case round =>
    obtain ⟨i, hgk, hi, rfl, ⟨nd, rfl⟩, ht⟩ := hrel
    rw [HN.out] at hi hgk
    have HGK := Lib.hid hgk
    have HT := Lib.hid ht
    clear hgk ht
    by_cases hlt : i < n
    · have hil : i < l.length := by rw [HN.out]; exact hlt
      have him : i < m.length := by rw [← HLEN.out]; exact hil
      have hlt' : (i : Int) < (n : Int) := by omega
      have dl : decide ((i : Int) < (n : Int)) = true := decide_eq_true hlt'
      obtain ⟨ad, hA, k⟩ := H.out.cell hil
      obtain ⟨ad', hA', k'⟩ := H'.out.cell him
      subst hA hA'
      obtain ⟨x, hx⟩ : ∃ x, l[i] = x := ⟨_, rfl⟩
      obtain ⟨y, hy⟩ : ∃ y, m[i] = y := ⟨_, rfl⟩
      rw [hx] at k
      rw [hy] at k'
      have k0 := k 0 (.int .i64 x) rfl
      have k0' := k' 0 (.int .i64 y) rfl
      rw [show i * inE.sz + 0 = i from by show i * 1 + 0 = i; omega] at k0 k0'
      have HX := Lib.hid hx
      have HY := Lib.hid hy
      by_cases hxy : x = y
      · have HXY := Lib.hid hxy
        subst hxy
        have d1 : (x != x) = false := by simp
        have hnx := Lib.hid (take_next hil him HT.out (by rw [HX.out, HY.out, HXY.out]))
        clear hx hy k k' HX HY hil him
        go_wp2_with fail
        go_quiet (fail)
        go_wp2_with fail
        go_roundg (n - (i + 1))
        case measure => rw [HGK.out]; omega
        case rel => exact ⟨i + 1, by rw [HN.out], by rw [HN.out]; omega, by go_num, ⟨_, rfl⟩, hnx.out⟩
      · have HXY := Lib.hid hxy
        have d1 : (x != y) = true := by simpa using hxy
        clear hxy
        have E := Lib.hid (eqB_at hil him (by rw [HX.out, HY.out]; exact HXY.out))
        clear hx hy k k' HX HY hil him
        go_wp2_with fail
        go_quiet (fail)
        go_wp2_with fail
        go_ret
        exact ⟨by rw [E.out]; rfl, by first | exact ⟨_, rfl⟩ | (rw [World.drewN_drewN]; exact ⟨_, rfl⟩)⟩
    · have e0 : i = n := by omega
      have hlt' : ¬ (i : Int) < (n : Int) := by omega
      have dl : decide ((i : Int) < (n : Int)) = false := decide_eq_false hlt'
      have E := Lib.hid (eqB_all HLEN.out (by rw [HN.out, ← e0]; exact HT.out))
      clear e0
      go_wp2_with fail
      go_ret
      exact ⟨by rw [E.out]; rfl, _, rfl⟩
set_option maxHeartbeats 4000000 in
theorem sameVars0 (A A' : Option Addr) (c c' : Nat) (l m : List (Int × Int)) (w : World) (h : pvE.Lies w A l) (h' : pvE.Lies w A' m) (hl : l.length ≤ 9223372036854775807) (hm : m.length ≤ 9223372036854775807) :
    Calls Try.prog 33 #[.slice A l.length c, .slice A' m.length c'] w fun e w' => e = .returned (.bool (eqB l m)) ∧ ∃ q, w' = w.drewN q := by
  have H := Lib.hid h
  have H' := Lib.hid h'
  clear h h'
  by_cases hlen : l.length = m.length
  case neg =>
    have hne : ((l.length : Int) != (m.length : Int)) = true := by simpa using fun e : (l.length : Int) = (m.length : Int) => hlen (by omega)
    have E := Lib.hid (eqB_len hlen)
    have hn1 : ¬ (l.length : Int) = (m.length : Int) := fun e => hlen (by omega)
    clear hlen
    go_enter Try.func33, Try.ntmps33
    go_wp2_with fail
    go_ret
    exact ⟨by rw [E.out]; rfl, 0, rfl⟩
  have HLEN := Lib.hid hlen
  obtain ⟨n, hn⟩ : ∃ n, l.length = n := ⟨_, rfl⟩
  have HN := Lib.hid hn
  rw [← hlen, hn]
  rw [hn] at hl
  clear hlen hn hm
  go_enter Try.func33, Try.ntmps33
  go_wp2_with fail
  go_loopg [5] n (fun gk v wr => SameAt w l m gk v wr)
  case atStart => exact ⟨0, by rw [HN.out]; rfl, Nat.zero_le _, rfl, ⟨0, rfl⟩, rfl⟩
  case round =>
    obtain ⟨i, hgk, hi, rfl, ⟨nd, rfl⟩, ht⟩ := hrel
    rw [HN.out] at hi hgk
    have HGK := Lib.hid hgk
    have HT := Lib.hid ht
    clear hgk ht
    by_cases hlt : i < n
    · have hil : i < l.length := by rw [HN.out]; exact hlt
      have him : i < m.length := by rw [← HLEN.out]; exact hil
      have hlt' : (i : Int) < (n : Int) := by omega
      have dl : decide ((i : Int) < (n : Int)) = true := decide_eq_true hlt'
      obtain ⟨ad, hA, k⟩ := H.out.cell hil
      obtain ⟨ad', hA', k'⟩ := H'.out.cell him
      subst hA hA'
      obtain ⟨x, hx⟩ : ∃ x, l[i] = x := ⟨_, rfl⟩
      obtain ⟨y, hy⟩ : ∃ y, m[i] = y := ⟨_, rfl⟩
      rw [hx] at k
      rw [hy] at k'
      obtain ⟨x1, x2⟩ := x
      obtain ⟨y1, y2⟩ := y
      have k0 := k 0 (.int .i64 x1) rfl
      have k0' := k' 0 (.int .i64 y1) rfl
      have k1 := k 1 (.int .i64 x2) rfl
      have k1' := k' 1 (.int .i64 y2) rfl
      rw [show i * pvE.sz + 0 = i * 2 from by show i * 2 + 0 = i * 2; omega] at k0 k0'
      rw [show i * pvE.sz + 1 = i * 2 + (0 + 1) from rfl, ← add_off] at k1 k1' 
      have HX := Lib.hid hx
      have HY := Lib.hid hy
      by_cases hxy : (x1, x2) = (y1, y2)
      · have HXY := Lib.hid hxy
        obtain ⟨rfl, rfl⟩ := Prod.mk.inj hxy
        have d1 : (x1 == x1) = true := beq_self_eq_true _
        have d2 : (x2 == x2) = true := beq_self_eq_true _
        have hnx := Lib.hid (take_next hil him HT.out (by rw [HX.out, HY.out, HXY.out]))
        clear hx hy k k' HX HY hil him
        go_wp2_with fail
        go_quiet (fail)
        go_wp2_with fail
        go_roundg (n - (i + 1))
        case measure => rw [HGK.out]; omega
        case rel => exact ⟨i + 1, by rw [HN.out], by rw [HN.out]; omega, by go_num, ⟨_, rfl⟩, hnx.out⟩
      · by_cases e1 : x1 = y1
        · have HXY := Lib.hid hxy
          have d2 : (x2 == y2) = false := by simpa using fun e => hxy (by rw [e1, e])
          have d2' : ¬ x2 = y2 := fun e => hxy (by rw [e1, e])
          subst e1
          have d1 : (x1 == x1) = true := beq_self_eq_true _
          clear hxy
          have E := Lib.hid (eqB_at hil him (by rw [HX.out, HY.out]; exact HXY.out))
          clear hx hy k k' HX HY hil him
          go_wp2_with fail
          go_quiet (fail)
          go_wp2_with fail
          go_ret
          exact ⟨by rw [E.out]; rfl, by first | exact ⟨_, rfl⟩ | (rw [World.drewN_drewN]; exact ⟨_, rfl⟩)⟩
        · have HXY := Lib.hid hxy
          have d1 : (x1 == y1) = false := by simpa using e1
          clear hxy
          have E := Lib.hid (eqB_at hil him (by rw [HX.out, HY.out]; exact HXY.out))
          clear hx hy k k' HX HY hil him
          go_wp2_with fail
          go_quiet (fail)
          go_wp2_with fail
          go_ret
          exact ⟨by rw [E.out]; rfl, by first | exact ⟨_, rfl⟩ | (rw [World.drewN_drewN]; exact ⟨_, rfl⟩)⟩
    · have e0 : i = n := by omega
      have hlt' : ¬ (i : Int) < (n : Int) := by omega
      have dl : decide ((i : Int) < (n : Int)) = false := decide_eq_false hlt'
      have E := Lib.hid (eqB_all HLEN.out (by rw [HN.out, ← e0]; exact HT.out))
      clear e0
      go_wp2_with fail
      go_ret
      exact ⟨by rw [E.out]; rfl, _, rfl⟩
set_option maxHeartbeats 4000000 in
theorem sameSteps0 (A A' : Option Addr) (c c' : Nat) (l m : List (Int × Int)) (w : World) (h : psE.Lies w A l) (h' : psE.Lies w A' m) (hl : l.length ≤ 9223372036854775807) (hm : m.length ≤ 9223372036854775807) :
    Calls Try.prog 35 #[.slice A l.length c, .slice A' m.length c'] w fun e w' => e = .returned (.bool (eqB l m)) ∧ ∃ q, w' = w.drewN q := by
  have H := Lib.hid h
  have H' := Lib.hid h'
  clear h h'
  by_cases hlen : l.length = m.length
  case neg =>
    have hne : ((l.length : Int) != (m.length : Int)) = true := by simpa using fun e : (l.length : Int) = (m.length : Int) => hlen (by omega)
    have E := Lib.hid (eqB_len hlen)
    have hn1 : ¬ (l.length : Int) = (m.length : Int) := fun e => hlen (by omega)
    clear hlen
    go_enter Try.func35, Try.ntmps35
    go_wp2_with fail
    go_ret
    exact ⟨by rw [E.out]; rfl, 0, rfl⟩
  have HLEN := Lib.hid hlen
  obtain ⟨n, hn⟩ : ∃ n, l.length = n := ⟨_, rfl⟩
  have HN := Lib.hid hn
  rw [← hlen, hn]
  rw [hn] at hl
  clear hlen hn hm
  go_enter Try.func35, Try.ntmps35
  go_wp2_with fail
  go_loopg [5] n (fun gk v wr => SameAt w l m gk v wr)
  case atStart => exact ⟨0, by rw [HN.out]; rfl, Nat.zero_le _, rfl, ⟨0, rfl⟩, rfl⟩
  case round =>
    obtain ⟨i, hgk, hi, rfl, ⟨nd, rfl⟩, ht⟩ := hrel
    rw [HN.out] at hi hgk
    have HGK := Lib.hid hgk
    have HT := Lib.hid ht
    clear hgk ht
    by_cases hlt : i < n
    · have hil : i < l.length := by rw [HN.out]; exact hlt
      have him : i < m.length := by rw [← HLEN.out]; exact hil
      have hlt' : (i : Int) < (n : Int) := by omega
      have dl : decide ((i : Int) < (n : Int)) = true := decide_eq_true hlt'
      obtain ⟨ad, hA, k⟩ := H.out.cell hil
      obtain ⟨ad', hA', k'⟩ := H'.out.cell him
      subst hA hA'
      obtain ⟨x, hx⟩ : ∃ x, l[i] = x := ⟨_, rfl⟩
      obtain ⟨y, hy⟩ : ∃ y, m[i] = y := ⟨_, rfl⟩
      rw [hx] at k
      rw [hy] at k'
      obtain ⟨x1, x2⟩ := x
      obtain ⟨y1, y2⟩ := y
      have k0 := k 0 (.int .i64 x1) rfl
      have k0' := k' 0 (.int .i64 y1) rfl
      have k1 := k 1 (.int .i64 x2) rfl
      have k1' := k' 1 (.int .i64 y2) rfl
      rw [show i * psE.sz + 0 = i * 2 from by show i * 2 + 0 = i * 2; omega] at k0 k0'
      rw [show i * psE.sz + 1 = i * 2 + (0 + 1) from rfl, ← add_off] at k1 k1' 
      have HX := Lib.hid hx
      have HY := Lib.hid hy
      by_cases hxy : (x1, x2) = (y1, y2)
      · have HXY := Lib.hid hxy
        obtain ⟨rfl, rfl⟩ := Prod.mk.inj hxy
        have d1 : (x1 == x1) = true := beq_self_eq_true _
        have d2 : (x2 == x2) = true := beq_self_eq_true _
        have hnx := Lib.hid (take_next hil him HT.out (by rw [HX.out, HY.out, HXY.out]))
        clear hx hy k k' HX HY hil him
        go_wp2_with fail
        go_quiet (fail)
        go_wp2_with fail
        go_roundg (n - (i + 1))
        case measure => rw [HGK.out]; omega
        case rel => exact ⟨i + 1, by rw [HN.out], by rw [HN.out]; omega, by go_num, ⟨_, rfl⟩, hnx.out⟩
      · by_cases e1 : x1 = y1
        · have HXY := Lib.hid hxy
          have d2 : (x2 == y2) = false := by simpa using fun e => hxy (by rw [e1, e])
          have d2' : ¬ x2 = y2 := fun e => hxy (by rw [e1, e])
          subst e1
          have d1 : (x1 == x1) = true := beq_self_eq_true _
          clear hxy
          have E := Lib.hid (eqB_at hil him (by rw [HX.out, HY.out]; exact HXY.out))
          clear hx hy k k' HX HY hil him
          go_wp2_with fail
          go_quiet (fail)
          go_wp2_with fail
          go_ret
          exact ⟨by rw [E.out]; rfl, by first | exact ⟨_, rfl⟩ | (rw [World.drewN_drewN]; exact ⟨_, rfl⟩)⟩
        · have HXY := Lib.hid hxy
          have d1 : (x1 == y1) = false := by simpa using e1
          clear hxy
          have E := Lib.hid (eqB_at hil him (by rw [HX.out, HY.out]; exact HXY.out))
          clear hx hy k k' HX HY hil him
          go_wp2_with fail
          go_quiet (fail)
          go_wp2_with fail
          go_ret
          exact ⟨by rw [E.out]; rfl, by first | exact ⟨_, rfl⟩ | (rw [World.drewN_drewN]; exact ⟨_, rfl⟩)⟩
    · have e0 : i = n := by omega
      have hlt' : ¬ (i : Int) < (n : Int) := by omega
      have dl : decide ((i : Int) < (n : Int)) = false := decide_eq_false hlt'
      have E := Lib.hid (eqB_all HLEN.out (by rw [HN.out, ← e0]; exact HT.out))
      clear e0
      go_wp2_with fail
      go_ret
      exact ⟨by rw [E.out]; rfl, _, rfl⟩
end Go.Proofs.Ytoaopjbgaehpfaa.G
end
section
/- wire: texts, jobs, plans: what is written is read, and what is read was written. -/
namespace Go.Proofs.Ytoaopjbgaehpfaa.G
open Go.RowKit
set_option linter.unusedVariables false
set_option linter.unusedSimpArgs false
def OkT (s : ByteArray) : Prop := s.size < 268435456
def OkS (x : Int × Int) : Prop := (1 ≤ x.1 ∧ x.1 ≤ 13) ∧ if saysB x.1 = true then In28 x.2 else x.2 = 0
theorem numW_1 {n : Int} (h : n < 128) : numW n = [n] := by unfold numW; rw [if_pos h]
def OkRows {α : Type} (ok : α → Prop) (l : List α) : Prop := l.length < 268435456 ∧ ∀ x ∈ l, ok x
def OkR (r : List (Int × Int) × Int) : Prop := In28 r.2 ∧ OkRows OkS r.1
def OkV (v : Int × Int) : Prop := In28 v.1 ∧ In28 v.2
def five (j : JobP) : List Int := [j.one.name, j.one.run, j.one.stage, j.one.when_, j.one.weight]
def OkJ (j : JobP) : Prop := (∀ n ∈ five j, In28 n) ∧ OkRows OkR j.rules ∧ OkRows OkV j.vars ∧ OkRows In28 j.preds
def OkW (ts : List ByteArray) (js : List JobP) : Prop := OkRows OkT ts ∧ OkRows OkJ js
end Go.Proofs.Ytoaopjbgaehpfaa.G
end
section
/- wire: a plan that may be can be written and read; how much is counted: plain. -/
namespace Go.Proofs.Ytoaopjbgaehpfaa.G
open Go.RowKit
set_option linter.unusedVariables false
set_option linter.unusedSimpArgs false
theorem steps_okS {ts : List ByteArray} {seen : List Int} {no : Nat} {j : JobP} (h : jobC ts seen no j = 0) (hn : JobNums j) : ∀ r ∈ j.rules, ∀ x ∈ r.1, OkS x := by
  obtain ⟨h1, h2, h3, h4⟩ := jobC_parts h
  unfold rulesB at h2
  rw [Bool.and_eq_true, decide_eq_true_eq] at h2
  intro r hr x hx
  have := List.all_eq_true.1 h2.2 r hr
  unfold ruleB at this
  simp only [Bool.and_eq_true, Bool.or_eq_true, beq_iff_eq] at this
  have hk : 1 ≤ x.1 ∧ x.1 ≤ 13 := by
    rcases this.2 with h | h
    · rw [List.eq_nil_of_length_eq_zero h] at hx
      exact absurd hx List.not_mem_nil
    · exact check_kinds h (stepOf ts x) (List.mem_map_of_mem hx)
  have h5 := List.all_eq_true.1 this.1.1 x hx
  unfold stepOk at h5
  refine ⟨hk, ?_⟩
  split at h5
  · rename_i hs
    rw [if_pos hs]
    exact (hn.steps r hr x hx).2
  · rename_i hs
    rw [if_neg hs]
    simpa using h5
theorem okW_of {ts : List ByteArray} {js : List JobP} (h : okP ts js = true) : OkW ts js := by
  unfold okP at h
  rw [Bool.and_eq_true, decide_eq_true_eq] at h
  obtain ⟨h1, h2⟩ := parts_texts h.1
  obtain ⟨a, b, _, d⟩ := texts_fit h1
  refine ⟨⟨by omega, fun s hs => ?_⟩, by omega, fun j hj => ?_⟩
  · have := d s hs
    show s.size < 268435456
    omega
  · have hn := nums_all h.1 j hj
    obtain ⟨s', n', h3, h4⟩ := jobsC_all h2 j hj
    have hs := steps_okS h3 hn
    refine ⟨fun n hm => ?_, ⟨by have := hn.rules; omega, fun r hr => ⟨hn.whens r hr, by have := hn.codes r hr; omega, hs r hr⟩⟩, ⟨by have := hn.vars; omega, fun v hv => hn.names v hv⟩, by have := hn.preds; omega, fun p hp => hn.froms p hp⟩
    unfold five at hm
    simp only [List.mem_cons, List.not_mem_nil, or_false] at hm
    rcases hm with rfl | rfl | rfl | rfl | rfl
    · exact hn.name
    · exact hn.run
    · exact hn.stage
    · exact hn.when_
    · exact hn.weight
end Go.Proofs.Ytoaopjbgaehpfaa.G
end
section
/- Chapter 18's awake. -/
namespace Go.Proofs.Ytoaopjbgaehpfaa.G
open Go.RowKit
attribute [local simp, local go_sem] alloc_drewN setCell_drewN
set_option linter.unusedVariables false
set_option linter.unusedSimpArgs false
set_option maxRecDepth 100000
def aTs : List ByteArray := [⟨#[97]⟩]
def aJob : JobP := ⟨⟨0, 0, 0, 0, 300⟩, false, [], [], []⟩
def aHead : List Int := [83, 72, 85, 84, 1, 0, 0]
def aAll : List Int := [83, 72, 85, 84, 1, 1, 1, 97, 1, 0, 0, 0, 0, 172, 2, 0, 0, 0, 0]
theorem aOk : okP aTs [aJob] = true := by kernel_rfl
theorem aBytes : planW aTs [aJob] = aAll := by kernel_rfl
theorem aCount : decCount aHead = 12 := by kernel_rfl
theorem aPlan : decPlan aHead = some ([], []) := by kernel_rfl
theorem aErrNil : decErr [] = 181 := by kernel_rfl
theorem aPlanNil : decPlan [] = none := by kernel_rfl
theorem bytesIn_nil (w : World) : BytesIn w none [] 0 := ⟨(fun i hi => absurd hi (Nat.not_lt_zero i)), (fun _ h => by cases h), (fun _ h => by cases h), ⟨by decide, fun b hb => absurd hb List.not_mem_nil⟩, by decide, by decide⟩
/-- Bytes in a block that was just made. -/
theorem bytesIn_new (w : World) (bs : List Int) (t : TypeId) (b c : Nat) (hb : b = w.heap.size) (hB : Bytes bs) (hc : bs.length ≤ c) (hc2 : c ≤ 9223372036854775807) : BytesIn (w.alloc (.cells (bs.map (Value.int .u8)).toArray t)) (some ⟨b, 0, none⟩) bs c := by
  subst hb
  refine ⟨fun i hi => ⟨_, rfl, ?_⟩, fun ad h => ?_, fun ad h => ?_, hB, hc, hc2⟩
  · rw [addr_add, Nat.zero_add, cell_of_row _ _ _ _ _ _ (heap_alloc_new w _), List.getElem?_toArray, List.getElem?_map, List.getElem?_eq_getElem hi]
    rfl
  · injection h with h; subst h; simp
  · injection h with h; subst h; rfl
theorem awakePlan (w : World) (b : Nat) (hb : b = w.heap.size) : PlanIn ((w.alloc (.cells #[.string ⟨#[97]⟩] 9)).alloc (.cells #[.int .i64 0, .int .i64 0, .int .i64 0, .int .i64 0, .bool false, .int .i64 300, .slice none 0 0, .slice none 0 0, .slice none 0 0] 52)) (some ⟨b, 0, none⟩) aTs (some ⟨b + 1, 0, none⟩) [aJob] := by
  subst hb
  refine ⟨fun i hi => ?_, fun i hi => ?_, by decide, by decide, fun s hs => ?_, fun j hj => ?_⟩
  · have : i = 0 := by simp [aTs] at hi; omega
    subst this
    exact ⟨_, rfl, by rw [addr_add]; go_simp; rfl⟩
  · have : i = 0 := by simp at hi; omega
    subst this
    refine ⟨_, rfl, none, none, none, 0, 0, 0, ?_⟩
    rw [addr_add]
    have e : (⟨w.heap.size + 1, 0 + 0 * 9, none⟩ : Addr) = ⟨w.heap.size + 1, 0, none⟩ := rfl
    rw [e]
    refine ⟨by go_simp; rfl, by go_simp; rfl, by go_simp; rfl, by go_simp; rfl, by go_simp; rfl, by go_simp; rfl, by go_simp; rfl, by go_simp; rfl, by go_simp; rfl, ?_, ?_, ?_⟩ <;> (intro i hi; exact absurd hi (Nat.not_lt_zero i))
  · simp [aTs] at hs
    subst hs
    decide
  · simp at hj
    subst hj
    exact ⟨by decide, by decide, fun r hr => absurd hr List.not_mem_nil, by decide, by decide⟩
theorem blkb (w : World) (o o' : Obj) : ((w.alloc o).alloc o').heap[w.heap.size + 1]? = some o' := by
  have h := heap_alloc_new (w.alloc o) o'
  rw [show (w.alloc o).heap.size = w.heap.size + 1 from by simp] at h
  exact h
set_option maxHeartbeats 4000000 in
theorem awake0 (w : World) : Calls Try.prog 16 #[] w fun e w' => e = .returned (.bool true) ∧ But No w w' := by
  go_enter Try.func16, Try.ntmps16
  go_wp2_with (first | (go_at_call 12; refine (enc_ok 1 1 (awakePlan w w.heap.size rfl) aOk).mono ?_; rintro e w1 ⟨v, rfl, hown, hb⟩; (have HO := Lib.hid hown); (have HB := Lib.hid ((((But.refl No w).alloc (.cells #[.string ⟨#[97]⟩] 9)).alloc (.cells #[.int .i64 0, .int .i64 0, .int .i64 0, .int .i64 0, .bool false, .int .i64 300, .slice none 0 0, .slice none 0 0, .slice none 0 0] 52)).trans (But.of_below (S := No) hb))); clear hown hb))
  have hw1 := HB.out.size
  refine (decode0 (bytesIn_new w1 aHead 5 w1.heap.size 7 rfl ⟨by decide, by decide⟩ (by decide) (by decide))).mono ?_
  rintro e w2 ⟨hb2, hp2⟩
  rw [aPlan] at hp2
  obtain ⟨At, ct, Aj, cj, rfl, hpl⟩ := hp2
  rw [aCount]
  have HB2 := Lib.hid ((HB.out.alloc (.cells (aHead.map (Value.int .u8)).toArray 5)).trans hb2)
  have HO2 := Lib.hid ((HO.out.alloc (.cells (aHead.map (Value.int .u8)).toArray 5)).new hb2)
  clear hb2 hpl HO HB hw1
  go_wp2_with fail
  refine (decode0 (bytesIn_nil _)).mono ?_
  rintro e w3 ⟨hb3, hp3⟩
  rw [aPlanNil] at hp3
  subst hp3
  rw [aErrNil]
  have k0 : w3.cell? ⟨w2.heap.size, 0, none⟩ = some (.slice At 0 ct) := hb3.cell_some (blkcell (heap_alloc_new w2 (.cells #[.slice At 0 ct, .slice Aj 0 cj] 25)) 0 (by simp)) (fun c => c)
  have hs3 : w2.heap.size < w3.heap.size := by have := hb3.size; simp at this; omega
  have n1 : ¬ w3.heap.size = w2.heap.size := by omega
  have n2 : ¬ w2.heap.size = w3.heap.size := by omega
  have HB3 := Lib.hid ((HB2.out.alloc (.cells #[.slice At 0 ct, .slice Aj 0 cj] 25)).trans hb3)
  have HO3 := Lib.hid ((HO2.out.alloc (.cells #[.slice At 0 ct, .slice Aj 0 cj] 25)).new hb3)
  rw [aBytes] at HO3
  obtain ⟨A, c, rfl⟩ := HO3.out.slice
  clear hb3 HO2 HB2
  go_wp2_with fail
  refine (sameBytes0 A (some ⟨w3.heap.size + 1, 0, none⟩) c 19 aAll aAll _ ?_ ?_ (by decide) (by decide)).mono ?_
  · exact ((HO3.out.alloc _).alloc _).lies
  · intro hl
    exact ⟨_, rfl, byE.cells_new (blkb w3 _ _) rfl⟩
  rintro e w4 ⟨rfl, hq4⟩
  have hb4 := drewn_but hq4
  clear hq4
  rw [show eqB aAll aAll = true from decide_eq_true rfl]
  have k1 : w4.cell? ⟨w2.heap.size, 0, none⟩ = some (.slice At 0 ct) := hb4.cell_some ((((But.refl No w3).alloc _).alloc _).cell_some k0 (fun c => c)) (fun c => c)
  have HB4 := Lib.hid (((HB3.out.alloc _).alloc _).trans hb4)
  clear hb4 k0 HB3 HO3
  go_wp2_with fail
  go_ret
  exact ⟨rfl, HB4.out⟩
end Go.Proofs.Ytoaopjbgaehpfaa.G
end
section
/- WireCounts: walked. -/
namespace Go.Proofs.Ytoaopjbgaehpfaa.G
open Go.RowKit
attribute [local simp, local go_sem] alloc_drewN setCell_drewN
set_option linter.unusedVariables false
set_option linter.unusedSimpArgs false
set_option maxRecDepth 100000
end Go.Proofs.Ytoaopjbgaehpfaa.G
end
section
/- The arguments of chapter 18's laws, opened: bytes, plans. -/
namespace Go.Proofs.Ytoaopjbgaehpfaa.G
open Go.RowKit
set_option linter.unusedVariables false
set_option linter.unusedSimpArgs false
set_option maxRecDepth 100000
theorem cel3 : Try.prog.cellsOf 3 = 1 := by kernel_rfl
theorem cel4 : Try.prog.cellsOf 4 = 1 := by kernel_rfl
theorem cel9 : Try.prog.cellsOf 9 = 1 := by kernel_rfl
theorem celTs : Try.prog.cellsOf 22 = 1 := by kernel_rfl
theorem celJs : Try.prog.cellsOf 23 = 1 := by kernel_rfl
theorem celRs : Try.prog.cellsOf 48 = 1 := by kernel_rfl
theorem celVs : Try.prog.cellsOf 49 = 1 := by kernel_rfl
theorem celSs : Try.prog.cellsOf 56 = 1 := by kernel_rfl
theorem celIs : Try.prog.cellsOf 50 = 1 := by kernel_rfl
theorem celV : Try.prog.cellsOf 81 = 2 := by kernel_rfl
theorem celS : Try.prog.cellsOf 79 = 2 := by kernel_rfl
theorem celR : Try.prog.cellsOf 58 = 2 := by kernel_rfl
theorem celJ : Try.prog.cellsOf 52 = 9 := by kernel_rfl
theorem celP : Try.prog.cellsOf 25 = 2 := by kernel_rfl
theorem add0 (b : Addr) : b.add 0 = b := by unfold Addr.add; rw [if_pos rfl]
theorem addS (b : Addr) (j : Nat) : b.add (j + 1) = ⟨b.block, b.off + (j + 1), none⟩ := by unfold Addr.add; rw [if_neg (by omega)]
end Go.Proofs.Ytoaopjbgaehpfaa.G
end
