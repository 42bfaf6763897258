/- Texts of this claim, joined: words and laws that the others use. -/
import Derived.Test.YtoaopjbgaehpfaaQMa
import Derived.Test.YtoaopjbgaehpfaaQGk
section
/- Lists held against one another. -/
namespace Go.Proofs.Ytoaopjbgaehpfaa.G
open Go.RowKit
attribute [local simp, local go_sem] alloc_drewN setCell_drewN
set_option linter.unusedVariables false
set_option linter.unusedSimpArgs false
set_option maxRecDepth 100000
def eqB {α : Type} [DecidableEq α] (l m : List α) : Bool := decide (l = m)
theorem eqB_len {α : Type} [DecidableEq α] {l m : List α} (h : l.length ≠ m.length) : eqB l m = false := decide_eq_false fun e => h (by rw [e])
theorem eqB_at {α : Type} [DecidableEq α] {l m : List α} {i : Nat} (h : i < l.length) (h' : i < m.length) (hne : l[i] ≠ m[i]) : eqB l m = false := decide_eq_false fun e => hne (by subst e; rfl)
theorem eqB_all {α : Type} [DecidableEq α] {l m : List α} (h : l.length = m.length) (ht : l.take l.length = m.take l.length) : eqB l m = true := decide_eq_true (by rw [List.take_length, h, List.take_length] at ht; exact ht)
theorem take_next {α : Type} {l m : List α} {i : Nat} (h : i < l.length) (h' : i < m.length) (ht : l.take i = m.take i) (he : l[i] = m[i]) : l.take (i + 1) = m.take (i + 1) := by
  rw [List.take_succ_eq_append_getElem h, List.take_succ_eq_append_getElem h', ht, he]
theorem bytes_inj {a b : ByteArray} (h : a.toList = b.toList) : a = b := by
  rw [ByteArray.toList_eq, ByteArray.toList_eq] at h
  cases a
  cases b
  simp at h
  subst h
  rfl
theorem drewn_but {w w' : World} (h : ∃ q, w' = w.drewN q) : But No w w' := by
  obtain ⟨q, rfl⟩ := h
  exact (But.refl No w).drewN q
def SameAt {α : Type} (w : World) (l m : List α) (gk : Nat) (v : Value) (wr : World) : Prop := ∃ i : Nat, gk = l.length - i ∧ i ≤ l.length ∧ v = .int .i64 (i : Int) ∧ (∃ q, wr = w.drewN q) ∧ l.take i = m.take i
theorem El.Lies.cell {P : Program} {T Ts : TypeId} {α : Type} {E : El P T Ts α} {w : World} {A : Option Addr} {l : List α} (h : E.Lies w A l) {i : Nat} (hi : i < l.length) : ∃ ad, A = some ad ∧ ∀ j u, (E.enc l[i])[j]? = some u → w.cell? (ad.add (i * E.sz + j)) = some u := by
  obtain ⟨ad, h1, h2⟩ := h (fun e => by rw [e] at hi; exact absurd hi (Nat.not_lt_zero i))
  refine ⟨ad, h1, fun j u hj => h2 _ u ?_⟩
  have hj' : j < E.sz := by have := (List.getElem?_eq_some_iff.1 hj).1; rw [E.henc] at this; exact this
  rw [E.cells_at l i l[i] j (List.getElem?_eq_getElem hi) hj', hj]
set_option maxHeartbeats 4000000 in
theorem sameBytes0 (A A' : Option Addr) (c c' : Nat) (l m : List Int) (w : World) (h : byE.Lies w A l) (h' : byE.Lies w A' m) (hl : l.length ≤ 9223372036854775807) (hm : m.length ≤ 9223372036854775807) :
    Calls Try.prog 14 #[.slice A l.length c, .slice A' m.length c'] w fun e w' => e = .returned (.bool (eqB l m)) ∧ ∃ q, w' = w.drewN q := by
  have H := Lib.hid h
  have H' := Lib.hid h'
  clear h h'
  by_cases hlen : l.length = m.length
  case neg =>
    have hne : ((l.length : Int) != (m.length : Int)) = true := by simpa using fun e : (l.length : Int) = (m.length : Int) => hlen (by omega)
    have E := Lib.hid (eqB_len hlen)
    have hn1 : ¬ (l.length : Int) = (m.length : Int) := fun e => hlen (by omega)
    clear hlen
    go_enter Try.func14, Try.ntmps14
    go_wp2_with fail
    go_ret
    exact ⟨by rw [E.out]; rfl, 0, rfl⟩
  have HLEN := Lib.hid hlen
  obtain ⟨n, hn⟩ : ∃ n, l.length = n := ⟨_, rfl⟩
  have HN := Lib.hid hn
  rw [← hlen, hn]
  rw [hn] at hl
  clear hlen hn hm
  go_enter Try.func14, Try.ntmps14
  go_wp2_with fail
  go_loopg [5] n (fun gk v wr => SameAt w l m gk v wr)
  case atStart => exact ⟨0, by rw [HN.out]; rfl, Nat.zero_le _, rfl, ⟨0, rfl⟩, rfl⟩
  case round =>
    obtain ⟨i, hgk, hi, rfl, ⟨nd, rfl⟩, ht⟩ := hrel
    rw [HN.out] at hi hgk
    have HGK := Lib.hid hgk
    have HT := Lib.hid ht
    clear hgk ht
    by_cases hlt : i < n
    · have hil : i < l.length := by rw [HN.out]; exact hlt
      have him : i < m.length := by rw [← HLEN.out]; exact hil
      have hlt' : (i : Int) < (n : Int) := by omega
      have dl : decide ((i : Int) < (n : Int)) = true := decide_eq_true hlt'
      obtain ⟨ad, hA, k⟩ := H.out.cell hil
      obtain ⟨ad', hA', k'⟩ := H'.out.cell him
      subst hA hA'
      obtain ⟨x, hx⟩ : ∃ x, l[i] = x := ⟨_, rfl⟩
      obtain ⟨y, hy⟩ : ∃ y, m[i] = y := ⟨_, rfl⟩
      rw [hx] at k
      rw [hy] at k'
      have k0 := k 0 (.int .u8 x) rfl
      have k0' := k' 0 (.int .u8 y) rfl
      rw [show i * byE.sz + 0 = i from by show i * 1 + 0 = i; omega] at k0 k0'
      have HX := Lib.hid hx
      have HY := Lib.hid hy
      by_cases hxy : x = y
      · have HXY := Lib.hid hxy
        subst hxy
        have d1 : (x != x) = false := by simp
        have hnx := Lib.hid (take_next hil him HT.out (by rw [HX.out, HY.out, HXY.out]))
        clear hx hy k k' HX HY hil him
        go_wp2_with fail
        go_quiet (fail)
        go_wp2_with fail
        go_roundg (n - (i + 1))
        case measure => rw [HGK.out]; omega
        case rel => exact ⟨i + 1, by rw [HN.out], by rw [HN.out]; omega, by go_num, ⟨_, rfl⟩, hnx.out⟩
      · have HXY := Lib.hid hxy
        have d1 : (x != y) = true := by simpa using hxy
        clear hxy
        have E := Lib.hid (eqB_at hil him (by rw [HX.out, HY.out]; exact HXY.out))
        clear hx hy k k' HX HY hil him
        go_wp2_with fail
        go_quiet (fail)
        go_wp2_with fail
        go_ret
        exact ⟨by rw [E.out]; rfl, by first | exact ⟨_, rfl⟩ | (rw [World.drewN_drewN]; exact ⟨_, rfl⟩)⟩
    · have e0 : i = n := by omega
      have hlt' : ¬ (i : Int) < (n : Int) := by omega
      have dl : decide ((i : Int) < (n : Int)) = false := decide_eq_false hlt'
      have E := Lib.hid (eqB_all HLEN.out (by rw [HN.out, ← e0]; exact HT.out))
      clear e0
      go_wp2_with fail
      go_ret
      exact ⟨by rw [E.out]; rfl, _, rfl⟩
set_option maxHeartbeats 4000000 in
theorem sameTexts0 (A A' : Option Addr) (c c' : Nat) (l m : List ByteArray) (w : World) (h : sgE.Lies w A l) (h' : sgE.Lies w A' m) (hl : l.length ≤ 9223372036854775807) (hm : m.length ≤ 9223372036854775807) :
    Calls Try.prog 32 #[.slice A l.length c, .slice A' m.length c'] w fun e w' => e = .returned (.bool (eqB l m)) ∧ ∃ q, w' = w.drewN q := by
  have H := Lib.hid h
  have H' := Lib.hid h'
  clear h h'
  by_cases hlen : l.length = m.length
  case neg =>
    have hne : ((l.length : Int) != (m.length : Int)) = true := by simpa using fun e : (l.length : Int) = (m.length : Int) => hlen (by omega)
    have E := Lib.hid (eqB_len hlen)
    have hn1 : ¬ (l.length : Int) = (m.length : Int) := fun e => hlen (by omega)
    clear hlen
    go_enter Try.func32, Try.ntmps32
    go_wp2_with fail
    go_ret
    exact ⟨by rw [E.out]; rfl, 0, rfl⟩
  have HLEN := Lib.hid hlen
  obtain ⟨n, hn⟩ : ∃ n, l.length = n := ⟨_, rfl⟩
  have HN := Lib.hid hn
  rw [← hlen, hn]
  rw [hn] at hl
  clear hlen hn hm
  go_enter Try.func32, Try.ntmps32
  go_wp2_with fail
  go_loopg [5] n (fun gk v wr => SameAt w l m gk v wr)
  case atStart => exact ⟨0, by rw [HN.out]; rfl, Nat.zero_le _, rfl, ⟨0, rfl⟩, rfl⟩
  case round =>
    obtain ⟨i, hgk, hi, rfl, ⟨nd, rfl⟩, ht⟩ := hrel
    rw [HN.out] at hi hgk
    have HGK := Lib.hid hgk
    have HT := Lib.hid ht
    clear hgk ht
    by_cases hlt : i < n
    · have hil : i < l.length := by rw [HN.out]; exact hlt
      have him : i < m.length := by rw [← HLEN.out]; exact hil
      have hlt' : (i : Int) < (n : Int) := by omega
      have dl : decide ((i : Int) < (n : Int)) = true := decide_eq_true hlt'
      obtain ⟨ad, hA, k⟩ := H.out.cell hil
      obtain ⟨ad', hA', k'⟩ := H'.out.cell him
      subst hA hA'
      obtain ⟨x, hx⟩ : ∃ x, l[i] = x := ⟨_, rfl⟩
      obtain ⟨y, hy⟩ : ∃ y, m[i] = y := ⟨_, rfl⟩
      rw [hx] at k
      rw [hy] at k'
      have k0 := k 0 (.string x) rfl
      have k0' := k' 0 (.string y) rfl
      rw [show i * sgE.sz + 0 = i from by show i * 1 + 0 = i; omega] at k0 k0'
      have HX := Lib.hid hx
      have HY := Lib.hid hy
      by_cases hxy : x = y
      · have HXY := Lib.hid hxy
        subst hxy
        have d1 : (x.toList == x.toList) = true := beq_self_eq_true _
        have hnx := Lib.hid (take_next hil him HT.out (by rw [HX.out, HY.out, HXY.out]))
        clear hx hy k k' HX HY hil him
        go_wp2_with fail
        go_quiet (fail)
        go_wp2_with fail
        go_roundg (n - (i + 1))
        case measure => rw [HGK.out]; omega
        case rel => exact ⟨i + 1, by rw [HN.out], by rw [HN.out]; omega, by go_num, ⟨_, rfl⟩, hnx.out⟩
      · have HXY := Lib.hid hxy
        have d1 : (x.toList == y.toList) = false := by simpa using fun e => hxy (bytes_inj e)
        clear hxy
        have E := Lib.hid (eqB_at hil him (by rw [HX.out, HY.out]; exact HXY.out))
        clear hx hy k k' HX HY hil him
        go_wp2_with fail
        go_quiet (fail)
        go_wp2_with fail
        go_ret
        exact ⟨by rw [E.out]; rfl, by first | exact ⟨_, rfl⟩ | (rw [World.drewN_drewN]; exact ⟨_, rfl⟩)⟩
    · have e0 : i = n := by omega
      have hlt' : ¬ (i : Int) < (n : Int) := by omega
      have dl : decide ((i : Int) < (n : Int)) = false := decide_eq_false hlt'
      have E := Lib.hid (eqB_all HLEN.out (by rw [HN.out, ← e0]; exact HT.out))
      clear e0
      go_wp2_with fail
      go_ret
      exact ⟨by rw [E.out]; rfl, _, rfl⟩
set_option maxHeartbeats 4000000 in
theorem sameInts0 (A A' : Option Addr) (c c' : Nat) (l m : List Int) (w : World) (h : inE.Lies w A l) (h' : inE.Lies w A' m) (hl : l.length ≤ 9223372036854775807) (hm : m.length ≤ 9223372036854775807) :
    Calls Try.prog 34 #[.slice A l.length c, .slice A' m.length c'] w fun e w' => e = .returned (.bool (eqB l m)) ∧ ∃ q, w' = w.drewN q := by
  have H := Lib.hid h
  have H' := Lib.hid h'
  clear h h'
  by_cases hlen : l.length = m.length
  case neg =>
    have hne : ((l.length : Int) != (m.length : Int)) = true := by simpa using fun e : (l.length : Int) = (m.length : Int) => hlen (by omega)
    have E := Lib.hid (eqB_len hlen)
    have hn1 : ¬ (l.length : Int) = (m.length : Int) := fun e => hlen (by omega)
    clear hlen
    go_enter Try.func34, Try.ntmps34
    go_wp2_with fail
    go_ret
    exact ⟨by rw [E.out]; rfl, 0, rfl⟩
  have HLEN := Lib.hid hlen
  obtain ⟨n, hn⟩ : ∃ n, l.length = n := ⟨_, rfl⟩
  have HN := Lib.hid hn
  rw [← hlen, hn]
  rw [hn] at hl
  clear hlen hn hm
  go_enter Try.func34, Try.ntmps34
  go_wp2_with fail
  go_loopg [5] n (fun gk v wr => SameAt w l m gk v wr)
  case atStart => exact ⟨0, by rw [HN.out]; rfl, Nat.zero_le _, rfl, ⟨0, rfl⟩, rfl⟩
  case round =>
    obtain ⟨i, hgk, hi, rfl, ⟨nd, rfl⟩, ht⟩ := hrel
    rw [HN.out] at hi hgk
    have HGK := Lib.hid hgk
    have HT := Lib.hid ht
    clear hgk ht
    by_cases hlt : i < n
    · have hil : i < l.length := by rw [HN.out]; exact hlt
      have him : i < m.length := by rw [← HLEN.out]; exact hil
      have hlt' : (i : Int) < (n : Int) := by omega
      have dl : decide ((i : Int) < (n : Int)) = true := decide_eq_true hlt'
      obtain ⟨ad, hA, k⟩ := H.out.cell hil
      obtain ⟨ad', hA', k'⟩ := H'.out.cell him
      subst hA hA'
      obtain ⟨x, hx⟩ : ∃ x, l[i] = x := ⟨_, rfl⟩
      obtain ⟨y, hy⟩ : ∃ y, m[i] = y := ⟨_, rfl⟩
      rw [hx] at k
      rw [hy] at k'
      have k0 := k 0 (.int .i64 x) rfl
      have k0' := k' 0 (.int .i64 y) rfl
      rw [show i * inE.sz + 0 = i from by show i * 1 + 0 = i; omega] at k0 k0'
      have HX := Lib.hid hx
      have HY := Lib.hid hy
      by_cases hxy : x = y
      · have HXY := Lib.hid hxy
        subst hxy
        have d1 : (x != x) = false := by simp
        have hnx := Lib.hid (take_next hil him HT.out (by rw [HX.out, HY.out, HXY.out]))
        clear hx hy k k' HX HY hil him
        go_wp2_with fail
        go_quiet (fail)
        go_wp2_with fail
        go_roundg (n - (i + 1))
        case measure => rw [HGK.out]; omega
        case rel => exact ⟨i + 1, by rw [HN.out], by rw [HN.out]; omega, by go_num, ⟨_, rfl⟩, hnx.out⟩
      · have HXY := Lib.hid hxy
        have d1 : (x != y) = true := by simpa using hxy
        clear hxy
        have E := Lib.hid (eqB_at hil him (by rw [HX.out, HY.out]; exact HXY.out))
        clear hx hy k k' HX HY hil him
        go_wp2_with fail
        go_quiet (fail)
        go_wp2_with fail
        go_ret
        exact ⟨by rw [E.out]; rfl, by first | exact ⟨_, rfl⟩ | (rw [World.drewN_drewN]; exact ⟨_, rfl⟩)⟩
    · have e0 : i = n := by omega
      have hlt' : ¬ (i : Int) < (n : Int) := by omega
      have dl : decide ((i : Int) < (n : Int)) = false := decide_eq_false hlt'
      have E := Lib.hid (eqB_all HLEN.out (by rw [HN.out, ← e0]; exact HT.out))
      clear e0
      go_wp2_with fail
      go_ret
      exact ⟨by rw [E.out]; rfl, _, rfl⟩
set_option maxHeartbeats 4000000 in
theorem sameVars0 (A A' : Option Addr) (c c' : Nat) (l m : List (Int × Int)) (w : World) (h : pvE.Lies w A l) (h' : pvE.Lies w A' m) (hl : l.length ≤ 9223372036854775807) (hm : m.length ≤ 9223372036854775807) :
    Calls Try.prog 33 #[.slice A l.length c, .slice A' m.length c'] w fun e w' => e = .returned (.bool (eqB l m)) ∧ ∃ q, w' = w.drewN q := by
  have H := Lib.hid h
  have H' := Lib.hid h'
  clear h h'
  by_cases hlen : l.length = m.length
  case neg =>
    have hne : ((l.length : Int) != (m.length : Int)) = true := by simpa using fun e : (l.length : Int) = (m.length : Int) => hlen (by omega)
    have E := Lib.hid (eqB_len hlen)
    have hn1 : ¬ (l.length : Int) = (m.length : Int) := fun e => hlen (by omega)
    clear hlen
    go_enter Try.func33, Try.ntmps33
    go_wp2_with fail
    go_ret
    exact ⟨by rw [E.out]; rfl, 0, rfl⟩
  have HLEN := Lib.hid hlen
  obtain ⟨n, hn⟩ : ∃ n, l.length = n := ⟨_, rfl⟩
  have HN := Lib.hid hn
  rw [← hlen, hn]
  rw [hn] at hl
  clear hlen hn hm
  go_enter Try.func33, Try.ntmps33
  go_wp2_with fail
  go_loopg [5] n (fun gk v wr => SameAt w l m gk v wr)
  case atStart => exact ⟨0, by rw [HN.out]; rfl, Nat.zero_le _, rfl, ⟨0, rfl⟩, rfl⟩
  case round =>
    obtain ⟨i, hgk, hi, rfl, ⟨nd, rfl⟩, ht⟩ := hrel
    rw [HN.out] at hi hgk
    have HGK := Lib.hid hgk
    have HT := Lib.hid ht
    clear hgk ht
    by_cases hlt : i < n
    · have hil : i < l.length := by rw [HN.out]; exact hlt
      have him : i < m.length := by rw [← HLEN.out]; exact hil
      have hlt' : (i : Int) < (n : Int) := by omega
      have dl : decide ((i : Int) < (n : Int)) = true := decide_eq_true hlt'
      obtain ⟨ad, hA, k⟩ := H.out.cell hil
      obtain ⟨ad', hA', k'⟩ := H'.out.cell him
      subst hA hA'
      obtain ⟨x, hx⟩ : ∃ x, l[i] = x := ⟨_, rfl⟩
      obtain ⟨y, hy⟩ : ∃ y, m[i] = y := ⟨_, rfl⟩
      rw [hx] at k
      rw [hy] at k'
      obtain ⟨x1, x2⟩ := x
      obtain ⟨y1, y2⟩ := y
      have k0 := k 0 (.int .i64 x1) rfl
      have k0' := k' 0 (.int .i64 y1) rfl
      have k1 := k 1 (.int .i64 x2) rfl
      have k1' := k' 1 (.int .i64 y2) rfl
      rw [show i * pvE.sz + 0 = i * 2 from by show i * 2 + 0 = i * 2; omega] at k0 k0'
      rw [show i * pvE.sz + 1 = i * 2 + (0 + 1) from rfl, ← add_off] at k1 k1' 
      have HX := Lib.hid hx
      have HY := Lib.hid hy
      by_cases hxy : (x1, x2) = (y1, y2)
      · have HXY := Lib.hid hxy
        obtain ⟨rfl, rfl⟩ := Prod.mk.inj hxy
        have d1 : (x1 == x1) = true := beq_self_eq_true _
        have d2 : (x2 == x2) = true := beq_self_eq_true _
        have hnx := Lib.hid (take_next hil him HT.out (by rw [HX.out, HY.out, HXY.out]))
        clear hx hy k k' HX HY hil him
        go_wp2_with fail
        go_quiet (fail)
        go_wp2_with fail
        go_roundg (n - (i + 1))
        case measure => rw [HGK.out]; omega
        case rel => exact ⟨i + 1, by rw [HN.out], by rw [HN.out]; omega, by go_num, ⟨_, rfl⟩, hnx.out⟩
      · by_cases e1 : x1 = y1
        · have HXY := Lib.hid hxy
          have d2 : (x2 == y2) = false := by simpa using fun e => hxy (by rw [e1, e])
          have d2' : ¬ x2 = y2 := fun e => hxy (by rw [e1, e])
          subst e1
          have d1 : (x1 == x1) = true := beq_self_eq_true _
          clear hxy
          have E := Lib.hid (eqB_at hil him (by rw [HX.out, HY.out]; exact HXY.out))
          clear hx hy k k' HX HY hil him
          go_wp2_with fail
          go_quiet (fail)
          go_wp2_with fail
          go_ret
          exact ⟨by rw [E.out]; rfl, by first | exact ⟨_, rfl⟩ | (rw [World.drewN_drewN]; exact ⟨_, rfl⟩)⟩
        · have HXY := Lib.hid hxy
          have d1 : (x1 == y1) = false := by simpa using e1
          clear hxy
          have E := Lib.hid (eqB_at hil him (by rw [HX.out, HY.out]; exact HXY.out))
          clear hx hy k k' HX HY hil him
          go_wp2_with fail
          go_quiet (fail)
          go_wp2_with fail
          go_ret
          exact ⟨by rw [E.out]; rfl, by first | exact ⟨_, rfl⟩ | (rw [World.drewN_drewN]; exact ⟨_, rfl⟩)⟩
    · have e0 : i = n := by omega
      have hlt' : ¬ (i : Int) < (n : Int) := by omega
      have dl : decide ((i : Int) < (n : Int)) = false := decide_eq_false hlt'
      have E := Lib.hid (eqB_all HLEN.out (by rw [HN.out, ← e0]; exact HT.out))
      clear e0
      go_wp2_with fail
      go_ret
      exact ⟨by rw [E.out]; rfl, _, rfl⟩
set_option maxHeartbeats 4000000 in
theorem sameSteps0 (A A' : Option Addr) (c c' : Nat) (l m : List (Int × Int)) (w : World) (h : psE.Lies w A l) (h' : psE.Lies w A' m) (hl : l.length ≤ 9223372036854775807) (hm : m.length ≤ 9223372036854775807) :
    Calls Try.prog 35 #[.slice A l.length c, .slice A' m.length c'] w fun e w' => e = .returned (.bool (eqB l m)) ∧ ∃ q, w' = w.drewN q := by
  have H := Lib.hid h
  have H' := Lib.hid h'
  clear h h'
  by_cases hlen : l.length = m.length
  case neg =>
    have hne : ((l.length : Int) != (m.length : Int)) = true := by simpa using fun e : (l.length : Int) = (m.length : Int) => hlen (by omega)
    have E := Lib.hid (eqB_len hlen)
    have hn1 : ¬ (l.length : Int) = (m.length : Int) := fun e => hlen (by omega)
    clear hlen
    go_enter Try.func35, Try.ntmps35
    go_wp2_with fail
    go_ret
    exact ⟨by rw [E.out]; rfl, 0, rfl⟩
  have HLEN := Lib.hid hlen
  obtain ⟨n, hn⟩ : ∃ n, l.length = n := ⟨_, rfl⟩
  have HN := Lib.hid hn
  rw [← hlen, hn]
  rw [hn] at hl
  clear hlen hn hm
  go_enter Try.func35, Try.ntmps35
  go_wp2_with fail
  go_loopg [5] n (fun gk v wr => SameAt w l m gk v wr)
  case atStart => exact ⟨0, by rw [HN.out]; rfl, Nat.zero_le _, rfl, ⟨0, rfl⟩, rfl⟩
  case round =>
    obtain ⟨i, hgk, hi, rfl, ⟨nd, rfl⟩, ht⟩ := hrel
    rw [HN.out] at hi hgk
    have HGK := Lib.hid hgk
    have HT := Lib.hid ht
    clear hgk ht
    by_cases hlt : i < n
    · have hil : i < l.length := by rw [HN.out]; exact hlt
      have him : i < m.length := by rw [← HLEN.out]; exact hil
      have hlt' : (i : Int) < (n : Int) := by omega
      have dl : decide ((i : Int) < (n : Int)) = true := decide_eq_true hlt'
      obtain ⟨ad, hA, k⟩ := H.out.cell hil
      obtain ⟨ad', hA', k'⟩ := H'.out.cell him
      subst hA hA'
      obtain ⟨x, hx⟩ : ∃ x, l[i] = x := ⟨_, rfl⟩
      obtain ⟨y, hy⟩ : ∃ y, m[i] = y := ⟨_, rfl⟩
      rw [hx] at k
      rw [hy] at k'
      obtain ⟨x1, x2⟩ := x
      obtain ⟨y1, y2⟩ := y
      have k0 := k 0 (.int .i64 x1) rfl
      have k0' := k' 0 (.int .i64 y1) rfl
      have k1 := k 1 (.int .i64 x2) rfl
      have k1' := k' 1 (.int .i64 y2) rfl
      rw [show i * psE.sz + 0 = i * 2 from by show i * 2 + 0 = i * 2; omega] at k0 k0'
      rw [show i * psE.sz + 1 = i * 2 + (0 + 1) from rfl, ← add_off] at k1 k1' 
      have HX := Lib.hid hx
      have HY := Lib.hid hy
      by_cases hxy : (x1, x2) = (y1, y2)
      · have HXY := Lib.hid hxy
        obtain ⟨rfl, rfl⟩ := Prod.mk.inj hxy
        have d1 : (x1 == x1) = true := beq_self_eq_true _
        have d2 : (x2 == x2) = true := beq_self_eq_true _
        have hnx := Lib.hid (take_next hil him HT.out (by rw [HX.out, HY.out, HXY.out]))
        clear hx hy k k' HX HY hil him
        go_wp2_with fail
        go_quiet (fail)
        go_wp2_with fail
        go_roundg (n - (i + 1))
        case measure => rw [HGK.out]; omega
        case rel => exact ⟨i + 1, by rw [HN.out], by rw [HN.out]; omega, by go_num, ⟨_, rfl⟩, hnx.out⟩
      · by_cases e1 : x1 = y1
        · have HXY := Lib.hid hxy
          have d2 : (x2 == y2) = false := by simpa using fun e => hxy (by rw [e1, e])
          have d2' : ¬ x2 = y2 := fun e => hxy (by rw [e1, e])
          subst e1
          have d1 : (x1 == x1) = true := beq_self_eq_true _
          clear hxy
          have E := Lib.hid (eqB_at hil him (by rw [HX.out, HY.out]; exact HXY.out))
          clear hx hy k k' HX HY hil him
          go_wp2_with fail
          go_quiet (fail)
          go_wp2_with fail
          go_ret
          exact ⟨by rw [E.out]; rfl, by first | exact ⟨_, rfl⟩ | (rw [World.drewN_drewN]; exact ⟨_, rfl⟩)⟩
        · have HXY := Lib.hid hxy
          have d1 : (x1 == y1) = false := by simpa using e1
          clear hxy
          have E := Lib.hid (eqB_at hil him (by rw [HX.out, HY.out]; exact HXY.out))
          clear hx hy k k' HX HY hil him
          go_wp2_with fail
          go_quiet (fail)
          go_wp2_with fail
          go_ret
          exact ⟨by rw [E.out]; rfl, by first | exact ⟨_, rfl⟩ | (rw [World.drewN_drewN]; exact ⟨_, rfl⟩)⟩
    · have e0 : i = n := by omega
      have hlt' : ¬ (i : Int) < (n : Int) := by omega
      have dl : decide ((i : Int) < (n : Int)) = false := decide_eq_false hlt'
      have E := Lib.hid (eqB_all HLEN.out (by rw [HN.out, ← e0]; exact HT.out))
      clear e0
      go_wp2_with fail
      go_ret
      exact ⟨by rw [E.out]; rfl, _, rfl⟩
end Go.Proofs.Ytoaopjbgaehpfaa.G
end
section
/- wire: what is written is read, and what is read was written: plain. -/
namespace Go.Proofs.Ytoaopjbgaehpfaa.G
open Go.RowKit
set_option linter.unusedVariables false
set_option linter.unusedSimpArgs false
/-- From the place a on the bytes begin with s. -/
def Here (bs : List Int) (a : Nat) (s : List Int) : Prop := s <+: bs.drop a
/-- From the place a on the bytes end within s. -/
def Short (bs : List Int) (a : Nat) (s : List Int) : Prop := a ≤ bs.length ∧ bs.drop a <+: s ∧ bs.length - a < s.length
theorem getD_lt {bs : List Int} {a : Nat} (h : a < bs.length) : bs.getD a 0 = bs[a] := by rw [List.getD_eq_getElem?_getD, List.getElem?_eq_getElem h]; rfl
theorem here_app {bs : List Int} {a : Nat} {s t : List Int} : Here bs a (s ++ t) ↔ Here bs a s ∧ Here bs (a + s.length) t := by
  unfold Here
  rw [show bs.drop (a + s.length) = (bs.drop a).drop s.length from by rw [List.drop_drop]]
  constructor
  · rintro ⟨v, hv⟩
    refine ⟨⟨t ++ v, by rw [← hv, List.append_assoc]⟩, ⟨v, ?_⟩⟩
    rw [← hv, List.append_assoc, List.drop_left]
  · rintro ⟨⟨v, hv⟩, ⟨u, hu⟩⟩
    rw [← hv, List.drop_left] at hu
    exact ⟨u, by rw [List.append_assoc, hu, hv]⟩
theorem here_nil (bs : List Int) (a : Nat) : Here bs a [] := List.nil_prefix
theorem here_cons {bs : List Int} {a : Nat} {c : Int} {s : List Int} : Here bs a (c :: s) ↔ a < bs.length ∧ bs.getD a 0 = c ∧ Here bs (a + 1) s := by
  unfold Here
  by_cases h : a < bs.length
  · rw [List.drop_eq_getElem_cons h, List.cons_prefix_cons, getD_lt h]
    exact ⟨fun k => ⟨h, k.1.symm, k.2⟩, fun k => ⟨k.2.1.symm, k.2.2⟩⟩
  · rw [List.drop_eq_nil_of_le (by omega)]
    constructor
    · intro k; have := List.prefix_nil.1 k; cases this
    · intro k; exact absurd k.1 h
theorem Here.le {bs : List Int} {a : Nat} {s : List Int} (h : Here bs a s) (ha : a ≤ bs.length) : a + s.length ≤ bs.length := by
  have := h.length_le
  rw [List.length_drop] at this
  omega
theorem short_app {bs : List Int} {a : Nat} {s t : List Int} (h : Short bs a (s ++ t)) : Short bs a s ∨ (Here bs a s ∧ Short bs (a + s.length) t) := by
  obtain ⟨h1, h2, h3⟩ := h
  by_cases hl : bs.length - a < s.length
  · exact .inl ⟨h1, List.prefix_of_prefix_length_le h2 (List.prefix_append s t) (by rw [List.length_drop]; omega), hl⟩
  · right
    have hs : s <+: bs.drop a := List.prefix_of_prefix_length_le (List.prefix_append s t) h2 (by rw [List.length_drop]; omega)
    refine ⟨hs, by omega, ?_, by rw [List.length_append] at h3; omega⟩
    rw [show bs.drop (a + s.length) = (bs.drop a).drop s.length from by rw [List.drop_drop]]
    obtain ⟨v, hv⟩ := hs
    rw [← hv, List.drop_left]
    rw [← hv] at h2
    exact (List.prefix_append_right_inj s).1 h2
theorem short_cons {bs : List Int} {a : Nat} {c : Int} {s : List Int} (h : Short bs a (c :: s)) : ¬ a < bs.length ∨ (a < bs.length ∧ bs.getD a 0 = c ∧ Short bs (a + 1) s) := by
  have h' : Short bs a ([c] ++ s) := h
  rcases short_app h' with h1 | ⟨h1, h2⟩
  · left
    have := h1.2.2
    have := h1.1
    simp only [List.length_cons, List.length_nil] at *
    omega
  · right
    have := here_cons.1 h1
    exact ⟨this.1, this.2.1, h2⟩
theorem short_nil {bs : List Int} {a : Nat} (h : Short bs a []) : False := absurd h.2.2 (by simp)
/-- A reader and a writer that belong together. -/
structure Codec {α : Type} (f : List Int → Nat → RR α) (enc : α → List Int) (ok : α → Prop) : Prop where
  reads : ∀ {bs : List Int} {a : Nat} {x : α}, a ≤ bs.length → ok x → Here bs a (enc x) → f bs a = .inr (x, a + (enc x).length)
  cut : ∀ {bs : List Int} {a : Nat} {x : α}, ok x → Short bs a (enc x) → ∃ b, f bs a = .inl (181, b)
  strict : ∀ {bs : List Int} {a : Nat} {x : α} {b : Nat}, Bytes bs → f bs a = .inr (x, b) → ok x ∧ b = a + (enc x).length ∧ Here bs a (enc x)
  errs : ∀ {bs : List Int} {a : Nat} {c : Int} {b : Nat}, Bytes bs → a ≤ bs.length → f bs a = .inl (c, b) → b ≤ bs.length
theorem Codec.as {α : Type} {f : List Int → Nat → RR α} {enc enc' : α → List Int} {ok ok' : α → Prop} (C : Codec f enc ok) (ho : ∀ z, ok' z ↔ ok z) (he : ∀ z, ok z → enc' z = enc z) : Codec f enc' ok' where
  reads ha h1 h2 := by
    have := (ho _).1 h1
    rw [he _ this] at h2 ⊢
    exact C.reads ha this h2
  cut h1 h2 := by
    have := (ho _).1 h1
    rw [he _ this] at h2
    exact C.cut this h2
  strict hB h := by
    obtain ⟨h1, h2, h3⟩ := C.strict hB h
    exact ⟨(ho _).2 h1, by rw [he _ h1]; exact h2, by rw [he _ h1]; exact h3⟩
  errs := C.errs
theorem Codec.pure {α : Type} (z0 : α) : Codec (fun _ a => .inr (z0, a)) (fun _ => []) (fun z => z = z0) where
  reads _ h _ := by subst h; rfl
  cut _ h := (short_nil h).elim
  strict _ h := by
    injection h with h
    injection h with h1 h2
    exact ⟨h1.symm, by rw [h2]; simp, here_nil _ _⟩
  errs _ _ h := by cases h
theorem Codec.seq {α γ : Type} {f1 : List Int → Nat → RR α} {e1 : α → List Int} {ok1 : α → Prop} {g : α → List Int → Nat → RR γ} {e2 : γ → List Int} {ok2 : γ → Prop} (p : γ → α)
    (C1 : Codec f1 e1 ok1) (C2 : ∀ x, ok1 x → Codec (g x) e2 (fun z => p z = x ∧ ok2 z)) :
    Codec (fun bs a => rbind (f1 bs a) fun x a' => g x bs a') (fun z => e1 (p z) ++ e2 z) (fun z => ok1 (p z) ∧ ok2 z) where
  reads := by
    intro bs a z ha hz hh
    obtain ⟨h1, h2⟩ := here_app.1 hh
    show rbind (f1 bs a) _ = _
    rw [C1.reads ha hz.1 h1]
    show g (p z) bs _ = _
    rw [(C2 (p z) hz.1).reads (h1.le ha) ⟨rfl, hz.2⟩ h2, List.length_append, Nat.add_assoc]
  cut := by
    intro bs a z hz hh
    show ∃ b, rbind (f1 bs a) _ = _
    rcases short_app hh with h1 | ⟨h1, h2⟩
    · obtain ⟨b, hb⟩ := C1.cut hz.1 h1
      exact ⟨b, by rw [hb]; rfl⟩
    · rw [C1.reads hh.1 hz.1 h1]
      exact (C2 (p z) hz.1).cut ⟨rfl, hz.2⟩ h2
  strict := by
    intro bs a z b hB h
    obtain ⟨x, c, h1, h2⟩ := rbind_in h
    obtain ⟨k1, k2, k3⟩ := C1.strict hB h1
    obtain ⟨⟨k4, k5⟩, k6, k7⟩ := (C2 x k1).strict hB h2
    subst k4 k2
    exact ⟨⟨k1, k5⟩, by rw [k6, List.length_append, Nat.add_assoc], here_app.2 ⟨k3, k7⟩⟩
  errs := by
    intro bs a c b hB ha h
    cases hr : f1 bs a with
    | inl e =>
      obtain ⟨c', b'⟩ := e
      have h' : rbind (f1 bs a) _ = _ := h
      rw [hr] at h'
      cases h'
      exact C1.errs hB ha hr
    | inr e =>
      obtain ⟨x, a'⟩ := e
      have h' : rbind (f1 bs a) _ = _ := h
      rw [hr] at h'
      obtain ⟨k1, k2, k3⟩ := C1.strict hB hr
      exact (C2 x k1).errs hB (by rw [k2]; exact k3.le ha) h'
/-- Nothing is read. -/
theorem Codec.fail {α : Type} {c : Int} {enc : α → List Int} {ok : α → Prop} (h : ∀ z, ¬ ok z) : Codec (fun _ a => .inl (c, a)) enc ok where
  reads _ h1 _ := absurd h1 (h _)
  cut h1 _ := absurd h1 (h _)
  strict _ h1 := by cases h1
  errs _ ha h1 := by cases h1; exact ha
/-! ### Numbers, bytes -/
theorem pow_step (m : Int) (k : Nat) (n : Int) : n + m % 128 * 128 ^ k + m / 128 * 128 ^ (k + 1) = n + m * 128 ^ k := by
  have h : m = m % 128 + m / 128 * 128 := by omega
  have h2 : (m % 128 + m / 128 * 128) * (128 : Int) ^ k = m % 128 * 128 ^ k + m / 128 * 128 ^ (k + 1) := by
    rw [Int.add_mul, Int.mul_assoc (m / 128), Int.pow_succ, Int.mul_comm 128]
  rw [← h] at h2
  omega
theorem num_reads {bs : List Int} : ∀ (f k : Nat) (n : Int) (a : Nat) (m : Int), f ≤ 4 → 0 ≤ m → m < 128 ^ f → (k = 0 ∨ m ≠ 0) → Here bs a (numW m) → 0 < f → numR bs f k n a = .inr (n + m * 128 ^ k, a + (numW m).length)
  | 0, _, _, _, _, _, _, _, _, _, hf => absurd hf (Nat.lt_irrefl 0)
  | f + 1, k, n, a, m, hf, h0, hm, hk, hh, _ => by
    rw [numR_succ]
    by_cases c : m < 128
    · have e : numW m = [m] := by unfold numW; rw [if_pos c]
      rw [e] at hh ⊢
      obtain ⟨h1, h2, _⟩ := here_cons.1 hh
      rw [if_pos h1, h2, if_pos c, if_neg (fun h => by rcases hk with hk | hk; exact h.2 hk; exact hk h.1), show m % 128 = m from by omega]
      rfl
    · have hb : m < 268435456 := Int.lt_of_lt_of_le hm (by
        have : f + 1 = 1 ∨ f + 1 = 2 ∨ f + 1 = 3 ∨ f + 1 = 4 := by omega
        rcases this with h | h | h | h <;> rw [h] <;> decide)
      have e := numW_step (n := m) (by omega) hb
      rw [e] at hh ⊢
      obtain ⟨h1, h2, h3⟩ := here_cons.1 hh
      have hf0 : 0 < f := by
        cases f with
        | zero => exfalso; rw [show (128 : Int) ^ (0 + 1) = 128 from by decide] at hm; omega
        | succ f => omega
      rw [if_pos h1, h2, if_neg (by omega), num_reads f (k + 1) _ (a + 1) (m / 128) (by omega) (by omega) (by rw [Int.pow_succ] at hm; omega) (.inr (by omega)) h3 hf0]
      rw [show (m % 128 + 128) % 128 = m % 128 from by omega, pow_step, List.length_cons, Nat.add_assoc, Nat.add_comm 1]
theorem num_cut {bs : List Int} : ∀ (f k : Nat) (n : Int) (a : Nat) (m : Int), f ≤ 4 → 0 ≤ m → m < 128 ^ f → Short bs a (numW m) → 0 < f → ∃ b, numR bs f k n a = .inl (181, b)
  | 0, _, _, _, _, _, _, _, _, hf => absurd hf (Nat.lt_irrefl 0)
  | f + 1, k, n, a, m, hf, h0, hm, hh, _ => by
    rw [numR_succ]
    by_cases c : m < 128
    · have e : numW m = [m] := by unfold numW; rw [if_pos c]
      rw [e] at hh
      rcases short_cons hh with h1 | ⟨_, _, h1⟩
      · exact ⟨a, by rw [if_neg h1]⟩
      · exact (short_nil h1).elim
    · have hb : m < 268435456 := Int.lt_of_lt_of_le hm (by
        have : f + 1 = 1 ∨ f + 1 = 2 ∨ f + 1 = 3 ∨ f + 1 = 4 := by omega
        rcases this with h | h | h | h <;> rw [h] <;> decide)
      have e := numW_step (n := m) (by omega) hb
      rw [e] at hh
      have hf0 : 0 < f := by
        cases f with
        | zero => exfalso; rw [show (128 : Int) ^ (0 + 1) = 128 from by decide] at hm; omega
        | succ f => omega
      rcases short_cons hh with h1 | ⟨h1, h2, h3⟩
      · exact ⟨a, by rw [if_neg h1]⟩
      · rw [if_pos h1, h2, if_neg (by omega)]
        exact num_cut f (k + 1) _ (a + 1) (m / 128) (by omega) (by omega) (by rw [Int.pow_succ] at hm; omega) h3 hf0
theorem num_strict {bs : List Int} (hB : Bytes bs) : ∀ (f k : Nat) (n : Int) (a : Nat) (x : Int) (b : Nat), f ≤ 4 → numR bs f k n a = .inr (x, b) → ∃ m : Int, x = n + m * 128 ^ k ∧ 0 ≤ m ∧ m < 128 ^ f ∧ (k = 0 ∨ m ≠ 0) ∧ b = a + (numW m).length ∧ Here bs a (numW m)
  | 0, _, _, _, _, _, _, h => by cases h
  | f + 1, k, n, a, x, b, hf, h => by
    rw [numR_succ] at h
    by_cases h1 : a < bs.length
    · rw [if_pos h1] at h
      have hr : 0 ≤ bs.getD a 0 ∧ bs.getD a 0 < 256 := by
        rw [getD_lt h1]
        exact hB.rng _ (List.getElem_mem h1)
      obtain ⟨c, hc⟩ : ∃ c, bs.getD a 0 = c := ⟨_, rfl⟩
      rw [hc] at h hr
      have hp : (1 : Int) ≤ 128 ^ f := Int.pow_pos (by decide)
      by_cases h2 : c < 128
      · rw [if_pos h2] at h
        by_cases h3 : c = 0 ∧ k ≠ 0
        · rw [if_pos h3] at h; cases h
        · rw [if_neg h3] at h
          injection h with h
          injection h with h4 h5
          have e : numW c = [c] := by unfold numW; rw [if_pos h2]
          refine ⟨c, by rw [← h4, show c % 128 = c from by omega], hr.1, ?_, ?_, by rw [e, ← h5]; rfl, by rw [e]; exact here_cons.2 ⟨h1, hc, here_nil _ _⟩⟩
          · rw [Int.pow_succ]; omega
          · by_cases k0 : k = 0
            · exact .inl k0
            · exact .inr fun c0 => h3 ⟨c0, k0⟩
      · rw [if_neg h2] at h
        obtain ⟨m, k1, k2, k3, k4, k5, k6⟩ := num_strict hB f (k + 1) _ (a + 1) x b (by omega) h
        have hm0 : m ≠ 0 := k4.resolve_left (by omega)
        have hd : (c % 128 + m * 128) / 128 = m := by omega
        have hmod : (c % 128 + m * 128) % 128 = c % 128 := by omega
        have hlt : c % 128 + m * 128 < 128 ^ (f + 1) := by rw [Int.pow_succ]; omega
        have hb : c % 128 + m * 128 < 268435456 := Int.lt_of_lt_of_le hlt (by
          have : f + 1 = 1 ∨ f + 1 = 2 ∨ f + 1 = 3 ∨ f + 1 = 4 := by omega
          rcases this with h | h | h | h <;> rw [h] <;> decide)
        have e := numW_step (n := c % 128 + m * 128) (by omega) hb
        rw [hd, hmod] at e
        refine ⟨c % 128 + m * 128, ?_, by omega, hlt, .inr (by omega), ?_, ?_⟩
        · have := pow_step (c % 128 + m * 128) k n
          rw [hd, hmod] at this
          rw [k1, this]
        · rw [e, k5, List.length_cons, Nat.add_assoc, Nat.add_comm 1]
        · rw [e]
          exact here_cons.2 ⟨h1, by rw [hc]; omega, k6⟩
    · rw [if_neg h1] at h; cases h
theorem num_errs {bs : List Int} : ∀ (f k : Nat) (n : Int) (a : Nat) (c : Int) (b : Nat), a ≤ bs.length → numR bs f k n a = .inl (c, b) → b ≤ bs.length
  | 0, _, _, _, _, _, ha, h => by cases h; exact ha
  | f + 1, k, n, a, c, b, ha, h => by
    rw [numR_succ] at h
    by_cases h1 : a < bs.length
    · rw [if_pos h1] at h
      by_cases h2 : bs.getD a 0 < 128
      · rw [if_pos h2] at h
        by_cases h3 : bs.getD a 0 = 0 ∧ k ≠ 0
        · rw [if_pos h3] at h; cases h; omega
        · rw [if_neg h3] at h; cases h
      · rw [if_neg h2] at h
        exact num_errs f (k + 1) _ (a + 1) c b (by omega) h
    · rw [if_neg h1] at h; cases h; exact ha
theorem numC : Codec numberR numW In28 where
  reads _ h hh := by
    unfold numberR
    rw [num_reads 4 0 0 _ _ (by decide) h.1 h.2 (.inl rfl) hh (by decide)]
    simp
  cut h hh := num_cut 4 0 0 _ _ (by decide) h.1 h.2 hh (by decide)
  strict hB h := by
    obtain ⟨m, k1, k2, k3, _, k5, k6⟩ := num_strict hB 4 0 0 _ _ _ (by decide) h
    rw [show (0 : Int) + m * 128 ^ 0 = m from by simp] at k1
    subst k1
    exact ⟨⟨k2, k3⟩, k5, k6⟩
  errs _ ha h := num_errs 4 0 0 _ _ _ ha h
theorem byteC : Codec byteR (fun c => [c]) (fun c => 0 ≤ c ∧ c < 256) where
  reads _ h hh := by
    obtain ⟨h1, h2, _⟩ := here_cons.1 hh
    unfold byteR
    rw [if_pos h1, h2]
    rfl
  cut h hh := by
    rcases short_cons hh with h1 | ⟨_, _, h1⟩
    · exact ⟨_, by unfold byteR; rw [if_neg h1]⟩
    · exact (short_nil h1).elim
  strict hB h := by
    unfold byteR at h
    split at h
    · rename_i h1
      injection h with h
      injection h with h2 h3
      refine ⟨?_, h3.symm, here_cons.2 ⟨h1, h2, here_nil _ _⟩⟩
      rw [← h2, getD_lt h1]
      exact hB.rng _ (List.getElem_mem h1)
    · cases h
  errs hB ha h := by
    unfold byteR at h
    split at h
    · cases h
    · cases h; exact ha
/-! ### Rows -/
section
variable {α : Type} {f : List Int → Nat → RR α} {enc : α → List Int} {ok : α → Prop}
theorem Codec.rep (C : Codec f enc ok) : ∀ n : Nat, Codec (fun bs a => repR (f bs) n a) (fun l => l.flatMap enc) (fun l => l.length = n ∧ ∀ x ∈ l, ok x)
  | 0 => (Codec.pure ([] : List α)).as (fun z => ⟨fun h => List.eq_nil_of_length_eq_zero h.1, fun h => by subst h; simp⟩) (fun z h => by subst h; rfl)
  | n + 1 => by
    have C2 := Codec.rep C n
    refine { reads := ?_, cut := ?_, strict := ?_, errs := ?_ }
    · intro bs a l ha hl hh
      cases l with
      | nil => exact absurd hl.1 (by simp)
      | cons x l =>
        rw [List.flatMap_cons] at hh
        obtain ⟨h1, h2⟩ := here_app.1 hh
        show rbind (f bs a) _ = _
        rw [C.reads ha (hl.2 x (by simp)) h1]
        show rbind (repR (f bs) n _) _ = _
        rw [C2.reads (h1.le ha) ⟨by simpa using hl.1, fun y hy => hl.2 y (by simp [hy])⟩ h2]
        show (Sum.inr _ : RR _) = _
        rw [List.flatMap_cons, List.length_append, Nat.add_assoc]
    · intro bs a l hl hh
      cases l with
      | nil => exact absurd hl.1 (by simp)
      | cons x l =>
        rw [List.flatMap_cons] at hh
        show ∃ b, rbind (f bs a) _ = _
        rcases short_app hh with h1 | ⟨h1, h2⟩
        · obtain ⟨b, hb⟩ := C.cut (hl.2 x (by simp)) h1
          exact ⟨b, by rw [hb]; rfl⟩
        · rw [C.reads hh.1 (hl.2 x (by simp)) h1]
          obtain ⟨b, hb⟩ := C2.cut ⟨by simpa using hl.1, fun y hy => hl.2 y (by simp [hy])⟩ h2
          refine ⟨b, ?_⟩
          show rbind (repR (f bs) n _) _ = _
          rw [show repR (f bs) n (a + (enc x).length) = _ from hb]
          rfl
    · intro bs a l b hB h
      obtain ⟨x, c, h1, h2⟩ := rbind_in (show rbind (f bs a) _ = _ from h)
      obtain ⟨l', d, h3, h4⟩ := rbind_in h2
      injection h4 with h4
      injection h4 with h5 h6
      obtain ⟨k1, k2, k3⟩ := C.strict hB h1
      obtain ⟨⟨k4, k5⟩, k6, k7⟩ := C2.strict hB h3
      subst h5 k2
      refine ⟨⟨by rw [List.length_cons, k4], fun y hy => ?_⟩, ?_, ?_⟩
      · rcases List.mem_cons.1 hy with rfl | hy
        · exact k1
        · exact k5 y hy
      · rw [← h6, k6, List.flatMap_cons, List.length_append, Nat.add_assoc]
      · rw [List.flatMap_cons]
        exact here_app.2 ⟨k3, k7⟩
    · intro bs a c b hB ha h
      have h' : rbind (f bs a) _ = _ := h
      cases hr : f bs a with
      | inl e =>
        obtain ⟨c', b'⟩ := e
        rw [hr] at h'
        cases h'
        exact C.errs hB ha hr
      | inr e =>
        obtain ⟨x, a'⟩ := e
        rw [hr] at h'
        obtain ⟨k1, k2, k3⟩ := C.strict hB hr
        have h2 : rbind (repR (f bs) n a') _ = _ := h'
        have ha' : a' ≤ bs.length := by rw [k2]; exact k3.le ha
        cases hr2 : repR (f bs) n a' with
        | inl e =>
          obtain ⟨c'', b''⟩ := e
          rw [hr2] at h2
          cases h2
          exact C2.errs hB ha' hr2
        | inr e => rw [hr2] at h2; cases h2
/-- A row: how many, then each. -/
def rowsW (enc : α → List Int) (l : List α) : List Int := numW (l.length : Int) ++ l.flatMap enc
theorem Codec.rows (C : Codec f enc ok) : Codec (fun bs a => rowsR bs (f bs) a) (rowsW enc) (fun l => l.length < 268435456 ∧ ∀ x ∈ l, ok x) := by
  have D := Codec.seq (fun l : List α => (l.length : Int)) numC (g := fun n bs a => repR (f bs) n.toNat a) (e2 := fun l => l.flatMap enc) (ok2 := fun l => ∀ x ∈ l, ok x) (fun n hn => (C.rep n.toNat).as (fun l => ⟨fun h => ⟨by have h1 : (l.length : Int) = n := h.1; omega, h.2⟩, fun h => ⟨by have h1 : l.length = n.toNat := h.1; have h2 : 0 ≤ n := hn.1; show (l.length : Int) = n; omega, h.2⟩⟩) (fun _ _ => rfl))
  refine D.as (fun l => ⟨fun h => ⟨⟨by omega, by have := h.1; omega⟩, h.2⟩, fun h => ⟨?_, h.2⟩⟩) (fun _ _ => rfl)
  have h1 : 0 ≤ (l.length : Int) ∧ (l.length : Int) < 268435456 := h.1
  omega
end
end Go.Proofs.Ytoaopjbgaehpfaa.G
end
section
/- wire: texts, jobs, plans: what is written is read, and what is read was written. -/
namespace Go.Proofs.Ytoaopjbgaehpfaa.G
open Go.RowKit
set_option linter.unusedVariables false
set_option linter.unusedSimpArgs false
theorem byts_str {l : List Int} (h : ∀ b ∈ l, 0 ≤ b ∧ b < 256) : byts (strOfNums l) = l := by
  unfold byts
  rw [strOfNums_data, List.map_map]
  refine (List.map_congr_left fun b hb => ?_).trans (List.map_id l)
  have := h b hb
  simp only [Function.comp_apply, id_eq, UInt8.toNat_ofNat']
  omega
theorem str_byts (s : ByteArray) : strOfNums (byts s) = s := by
  unfold byts strOfNums
  rw [List.map_map]
  have : (List.map ((fun n : Int => UInt8.ofNat n.toNat) ∘ fun b : UInt8 => (b.toNat : Int)) s.data.toList) = s.data.toList := by
    refine (List.map_congr_left fun b hb => ?_).trans (List.map_id _)
    simp
  rw [this]
theorem tailC (n : Int) (hn : In28 n) : Codec (fun bs a' => if a' + n.toNat ≤ bs.length then .inr (strOfNums ((bs.drop a').take n.toNat), a' + n.toNat) else .inl (181, bs.length)) byts (fun s => (s.size : Int) = n ∧ True) where
  reads := by
    intro bs a x ha h hh
    have hl : (byts x).length = n.toNat := by rw [byts_len]; have := h.1; omega
    have h2 := hh.le ha
    rw [hl] at h2 ⊢
    rw [if_pos h2]
    have h3 := List.prefix_iff_eq_take.1 hh
    rw [hl] at h3
    rw [← h3, str_byts]
  cut := by
    intro bs a x h hh
    have hl : (byts x).length = n.toNat := by rw [byts_len]; have := h.1; omega
    obtain ⟨h1, h2, h3⟩ := hh
    rw [hl] at h3
    exact ⟨_, by rw [if_neg (by omega)]⟩
  strict := by
    intro bs a x b hB h
    split at h
    · rename_i h1
      injection h with h
      injection h with h2 h3
      have hl : ((bs.drop a).take n.toNat).length = n.toNat := List.length_take_of_le (by rw [List.length_drop]; omega)
      have hb := byts_str (l := (bs.drop a).take n.toNat) (fun b hb => hB.rng b (List.mem_of_mem_drop (List.mem_of_mem_take hb)))
      rw [h2] at hb
      rw [← hb] at hl
      have hl' := hl
      rw [byts_len] at hl'
      refine ⟨⟨by have := hn.1; omega, trivial⟩, by rw [hl, h3], ?_⟩
      show byts x <+: _
      rw [hb]
      exact List.take_prefix _ _
    · cases h
  errs hB ha h := by
    split at h
    · cases h
    · cases h; exact Nat.le_refl _
def OkT (s : ByteArray) : Prop := s.size < 268435456
theorem textC : Codec textR textW OkT := by
  have D := Codec.seq (fun s : ByteArray => (s.size : Int)) numC (e2 := byts) (ok2 := fun _ => True) tailC
  refine D.as (fun s => ⟨fun h => ⟨⟨by omega, by have h1 : s.size < 268435456 := h; omega⟩, trivial⟩, fun h => ?_⟩) (fun s _ => ?_)
  · have h1 : (s.size : Int) < 268435456 := h.1.2
    show s.size < 268435456
    omega
  · simp [textW, bytesL]
def OkS (x : Int × Int) : Prop := (1 ≤ x.1 ∧ x.1 ≤ 13) ∧ if saysB x.1 = true then In28 x.2 else x.2 = 0
theorem numW_1 {n : Int} (h : n < 128) : numW n = [n] := by unfold numW; rw [if_pos h]
theorem stepCC : Codec stepR stepW OkS := by
  have D : Codec stepR (fun z : Int × Int => [z.1] ++ if saysB z.1 = true then numW z.2 else []) (fun z => (0 ≤ z.1 ∧ z.1 < 256) ∧ OkS z) := by
    refine Codec.seq (fun z : Int × Int => z.1) byteC (fun c hc => ?_)
    by_cases h1 : 1 ≤ c ∧ c ≤ 13
    · have e1 : (fun (bs : List Int) (a' : Nat) => if 1 ≤ c ∧ c ≤ 13 then (if saysB c = true then rbind (numberR bs a') fun n a'' => (.inr ((c, n), a'') : RR (Int × Int)) else .inr ((c, 0), a')) else .inl (182, a')) = fun bs a' => (if saysB c = true then rbind (numberR bs a') fun n a'' => .inr ((c, n), a'') else .inr ((c, 0), a')) := by
        funext bs a'; rw [if_pos h1]
      rw [e1]
      by_cases h2 : saysB c = true
      · have e2 : (fun (bs : List Int) (a' : Nat) => if saysB c = true then rbind (numberR bs a') fun n a'' => (.inr ((c, n), a'') : RR (Int × Int)) else .inr ((c, 0), a')) = fun bs a' => rbind (numberR bs a') fun n a'' => .inr ((c, n), a'') := by
          funext bs a'; rw [if_pos h2]
        rw [e2]
        have D2 := Codec.seq (g := fun n _ a'' => (.inr ((c, n), a'') : RR (Int × Int))) (fun z : Int × Int => z.2) numC (e2 := fun _ => []) (ok2 := fun z => z.1 = c) (fun n hn => (Codec.pure (c, n)).as (fun z => ⟨fun h => Prod.ext h.2 h.1, fun h => by rw [h]; exact ⟨rfl, rfl⟩⟩) (fun _ _ => rfl))
        refine D2.as (fun z => ⟨fun h => ?_, fun h => ?_⟩) (fun z h => ?_)
        · obtain ⟨k1, k2, k3⟩ := h
          rw [k1, if_pos h2] at k3
          exact ⟨k3, k1⟩
        · obtain ⟨k1, k2⟩ := h
          refine ⟨k2, by rw [k2]; exact h1, ?_⟩
          rw [k2, if_pos h2]
          exact k1
        · obtain ⟨k1, k2⟩ := h
          rw [k2, if_pos h2, List.append_nil]
      · have e2 : (fun (bs : List Int) (a' : Nat) => if saysB c = true then rbind (numberR bs a') fun n a'' => (.inr ((c, n), a'') : RR (Int × Int)) else .inr ((c, 0), a')) = fun bs a' => .inr ((c, 0), a') := by
          funext bs a'; rw [if_neg h2]
        rw [e2]
        refine (Codec.pure (c, (0 : Int))).as (fun z => ⟨fun h => ?_, fun h => ?_⟩) (fun z h => ?_)
        · obtain ⟨k1, k2, k3⟩ := h
          rw [k1, if_neg h2] at k3
          exact Prod.ext k1 k3
        · subst h
          exact ⟨rfl, h1, by rw [if_neg h2]⟩
        · subst h
          rw [if_neg h2]
    · have e1 : (fun (bs : List Int) (a' : Nat) => if 1 ≤ c ∧ c ≤ 13 then (if saysB c = true then rbind (numberR bs a') fun n a'' => (.inr ((c, n), a'') : RR (Int × Int)) else .inr ((c, 0), a')) else .inl (182, a')) = fun bs a' => .inl (182, a') := by
        funext bs a'; rw [if_neg h1]
      rw [e1]
      exact Codec.fail fun z h => h1 (by rw [← h.1]; exact h.2.1)
  refine D.as (fun z => ⟨fun h => ⟨by have := h.1; omega, h⟩, fun h => h.2⟩) (fun z h => ?_)
  have h1 := h.2.1.2
  simp [stepW, bytesL, numW_1 (show z.1 < 128 by omega)]
def OkRows {α : Type} (ok : α → Prop) (l : List α) : Prop := l.length < 268435456 ∧ ∀ x ∈ l, ok x
def OkR (r : List (Int × Int) × Int) : Prop := In28 r.2 ∧ OkRows OkS r.1
theorem ruleCC : Codec ruleR ruleW OkR := by
  have D : Codec ruleR (fun z => numW z.2 ++ (rowsW stepW z.1 ++ [])) (fun z => In28 z.2 ∧ (OkRows OkS z.1 ∧ z.2 = z.2)) := by
    refine Codec.seq (fun z : List (Int × Int) × Int => z.2) numC (ok2 := fun z => OkRows OkS z.1 ∧ z.2 = z.2) (fun wh hwh => ?_)
    have D2 := Codec.seq (g := fun code _ a'' => (.inr ((code, wh), a'') : RR (List (Int × Int) × Int))) (fun z : List (Int × Int) × Int => z.1) (Codec.rows stepCC) (e2 := fun _ => []) (ok2 := fun z => z.2 = wh) (fun code hc => (Codec.pure (code, wh)).as (fun z => ⟨fun h => Prod.ext h.1 h.2, fun h => by rw [h]; exact ⟨rfl, rfl⟩⟩) (fun _ _ => rfl))
    exact D2.as (fun z => ⟨fun h => ⟨h.2.1, h.1⟩, fun h => ⟨h.2, h.1, rfl⟩⟩) (fun _ _ => rfl)
  refine D.as (fun z => ⟨fun h => ⟨h.1, h.2, rfl⟩, fun h => ⟨h.1, h.2.1⟩⟩) (fun z h => ?_)
  simp [ruleW, bytesL, rowsW]
def OkV (v : Int × Int) : Prop := In28 v.1 ∧ In28 v.2
theorem varCC : Codec varR varW OkV := by
  have D : Codec varR (fun z => numW z.1 ++ (numW z.2 ++ [])) (fun z => In28 z.1 ∧ (In28 z.2 ∧ z.1 = z.1)) := by
    refine Codec.seq (fun z : Int × Int => z.1) numC (ok2 := fun z => In28 z.2 ∧ z.1 = z.1) (fun wh hwh => ?_)
    have D2 := Codec.seq (g := fun n _ a'' => (.inr ((wh, n), a'') : RR (Int × Int))) (fun z : Int × Int => z.2) numC (e2 := fun _ => []) (ok2 := fun z => z.1 = wh) (fun n hc => (Codec.pure (wh, n)).as (fun z => ⟨fun h => Prod.ext h.2 h.1, fun h => by rw [h]; exact ⟨rfl, rfl⟩⟩) (fun _ _ => rfl))
    exact D2.as (fun z => ⟨fun h => ⟨h.2.1, h.1⟩, fun h => ⟨h.2, h.1, rfl⟩⟩) (fun _ _ => rfl)
  refine D.as (fun z => ⟨fun h => ⟨h.1, h.2, rfl⟩, fun h => ⟨h.1, h.2.1⟩⟩) (fun z h => ?_)
  simp [varW, bytesL]
def five (j : JobP) : List Int := [j.one.name, j.one.run, j.one.stage, j.one.when_, j.one.weight]
def OkJ (j : JobP) : Prop := (∀ n ∈ five j, In28 n) ∧ OkRows OkR j.rules ∧ OkRows OkV j.vars ∧ OkRows In28 j.preds
def alW (j : JobP) : Int := if j.allow = true then 1 else 0
theorem mkJob_eq {ns : List Int} {c : Int} {rs : List (List (Int × Int) × Int)} {vs : List (Int × Int)} {ps : List Int} {j : JobP} (hn : ns.length = 5) (hc : 0 ≤ c ∧ c ≤ 1) : j = mkJob ns c rs vs ps ↔ five j = ns ∧ alW j = c ∧ j.rules = rs ∧ j.vars = vs ∧ j.preds = ps := by
  obtain ⟨⟨a, b, d, e, f⟩, al, r, v, p⟩ := j
  match ns, hn with
  | [n0, n1, n2, n3, n4], _ =>
    unfold mkJob five alW
    have hc' : c = 0 ∨ c = 1 := by omega
    rcases hc' with rfl | rfl <;> cases al <;> simp [and_assoc]
theorem jobCC : Codec jobR jobW OkJ := by
  have D : Codec jobR (fun j => (five j).flatMap numW ++ ([alW j] ++ (rowsW ruleW j.rules ++ (rowsW varW j.vars ++ (rowsW numW j.preds ++ []))))) (fun j => ((five j).length = 5 ∧ ∀ n ∈ five j, In28 n) ∧ ((0 ≤ alW j ∧ alW j < 256) ∧ (OkRows OkR j.rules ∧ OkRows OkV j.vars ∧ OkRows In28 j.preds) ∧ True)) := by
    refine Codec.seq five (Codec.rep numC 5) (ok2 := fun j => (0 ≤ alW j ∧ alW j < 256) ∧ (OkRows OkR j.rules ∧ OkRows OkV j.vars ∧ OkRows In28 j.preds) ∧ True) (fun ns hns => ?_)
    have D1 : Codec (fun bs a => jobR2 bs ns a) (fun j => [alW j] ++ (rowsW ruleW j.rules ++ (rowsW varW j.vars ++ (rowsW numW j.preds ++ [])))) (fun j => (0 ≤ alW j ∧ alW j < 256) ∧ (OkRows OkR j.rules ∧ OkRows OkV j.vars ∧ OkRows In28 j.preds) ∧ five j = ns) := by
      refine Codec.seq alW byteC (ok2 := fun j => (OkRows OkR j.rules ∧ OkRows OkV j.vars ∧ OkRows In28 j.preds) ∧ five j = ns) (fun c hc => ?_)
      by_cases hc1 : c ≤ 1
      · have e1 : (fun (bs : List Int) (a2 : Nat) => if c ≤ 1 then jobR3 bs ns c a2 else .inl (182, a2)) = fun bs a2 => jobR3 bs ns c a2 := by funext bs a; rw [if_pos hc1]
        rw [e1]
        have D2 : Codec (fun bs a => jobR3 bs ns c a) (fun j => rowsW ruleW j.rules ++ (rowsW varW j.vars ++ (rowsW numW j.preds ++ []))) (fun j => OkRows OkR j.rules ∧ (OkRows OkV j.vars ∧ OkRows In28 j.preds ∧ (five j = ns ∧ alW j = c))) := by
          refine Codec.seq (fun j : JobP => j.rules) (Codec.rows ruleCC) (ok2 := fun j => OkRows OkV j.vars ∧ OkRows In28 j.preds ∧ (five j = ns ∧ alW j = c)) (fun rs hrs => ?_)
          have D3 : Codec (fun bs a => rbind (rowsR bs (varR bs) a) fun vs a4 => rbind (rowsR bs (numberR bs) a4) fun ps a5 => .inr (mkJob ns c rs vs ps, a5)) (fun j => rowsW varW j.vars ++ (rowsW numW j.preds ++ [])) (fun j => OkRows OkV j.vars ∧ (OkRows In28 j.preds ∧ (five j = ns ∧ alW j = c ∧ j.rules = rs))) := by
            refine Codec.seq (fun j : JobP => j.vars) (Codec.rows varCC) (ok2 := fun j => OkRows In28 j.preds ∧ (five j = ns ∧ alW j = c ∧ j.rules = rs)) (fun vs hvs => ?_)
            have D4 : Codec (fun bs a => rbind (rowsR bs (numberR bs) a) fun ps a5 => .inr (mkJob ns c rs vs ps, a5)) (fun j => rowsW numW j.preds ++ []) (fun j => OkRows In28 j.preds ∧ (five j = ns ∧ alW j = c ∧ j.rules = rs ∧ j.vars = vs)) := by
              refine Codec.seq (fun j : JobP => j.preds) (Codec.rows numC) (ok2 := fun j => five j = ns ∧ alW j = c ∧ j.rules = rs ∧ j.vars = vs) (fun ps hps => ?_)
              exact (Codec.pure (mkJob ns c rs vs ps)).as (fun j => ⟨fun h => (mkJob_eq hns.1 ⟨hc.1, hc1⟩).2 ⟨h.2.1, h.2.2.1, h.2.2.2.1, h.2.2.2.2, h.1⟩, fun h => by
                obtain ⟨k1, k2, k3, k4, k5⟩ := (mkJob_eq hns.1 ⟨hc.1, hc1⟩).1 h
                exact ⟨k5, k1, k2, k3, k4⟩⟩) (fun _ _ => rfl)
            exact D4.as (fun j => ⟨fun h => ⟨h.2.1, h.2.2.1, h.2.2.2.1, h.2.2.2.2, h.1⟩, fun h => ⟨h.2.2.2.2, h.1, h.2.1, h.2.2.1, h.2.2.2.1⟩⟩) (fun _ _ => rfl)
          exact D3.as (fun j => ⟨fun h => ⟨h.2.1, h.2.2.1, h.2.2.2.1, h.2.2.2.2, h.1⟩, fun h => ⟨h.2.2.2.2, h.1, h.2.1, h.2.2.1, h.2.2.2.1⟩⟩) (fun _ _ => rfl)
        exact D2.as (fun j => ⟨fun h => ⟨h.2.1.1, h.2.1.2.1, h.2.1.2.2, h.2.2, h.1⟩, fun h => ⟨h.2.2.2.2, ⟨h.1, h.2.1, h.2.2.1⟩, h.2.2.2.1⟩⟩) (fun _ _ => rfl)
      · have e1 : (fun (bs : List Int) (a2 : Nat) => if c ≤ 1 then jobR3 bs ns c a2 else .inl (182, a2)) = fun bs a2 => .inl (182, a2) := by funext bs a; rw [if_neg hc1]
        rw [e1]
        refine Codec.fail fun j h => hc1 ?_
        have h1 : alW j = c := h.1
        rw [← h1]
        unfold alW
        split <;> decide
    exact D1.as (fun j => ⟨fun h => ⟨h.2.1, h.2.2.1, h.1⟩, fun h => ⟨h.2.2, h.1, h.2.1, trivial⟩⟩) (fun _ _ => rfl)
  refine D.as (fun j => ⟨fun h => ⟨⟨rfl, h.1⟩, ⟨by unfold alW; split <;> decide, by unfold alW; split <;> decide⟩, h.2, trivial⟩, fun h => ⟨h.1.2, h.2.2.1⟩⟩) (fun j h => ?_)
  have e : numW (alW j) = [alW j] := numW_1 (by unfold alW; split <;> decide)
  show jobW j = _
  unfold jobW bytesL rowsW
  rw [← e]
  simp only [five, List.flatMap_cons, List.flatMap_nil, List.append_nil, List.append_assoc, alW]
theorem headCC : ∀ l : List Int, Codec (fun bs a => headR bs l a) (fun _ : Unit => l) (fun _ => True)
  | [] => (Codec.pure ()).as (fun z => ⟨fun _ => rfl, fun _ => trivial⟩) (fun _ _ => rfl)
  | c :: l => by
    have C := headCC l
    refine { reads := ?_, cut := ?_, strict := ?_, errs := ?_ }
    · intro bs a x ha _ hh
      obtain ⟨h1, h2, h3⟩ := here_cons.1 hh
      show headR bs (c :: l) a = _
      unfold headR
      rw [if_pos h1, if_pos h2, show headR bs l (a + 1) = _ from C.reads (by omega) (x := ()) trivial h3, List.length_cons, Nat.add_assoc, Nat.add_comm 1]
    · intro bs a x _ hh
      show ∃ b, headR bs (c :: l) a = _
      unfold headR
      rcases short_cons hh with h1 | ⟨h1, h2, h3⟩
      · exact ⟨a, by rw [if_neg h1]⟩
      · rw [if_pos h1, if_pos h2]
        exact C.cut (x := ()) trivial h3
    · intro bs a x b hB h
      have h' : headR bs (c :: l) a = _ := h
      unfold headR at h'
      split at h'
      · rename_i h1
        split at h'
        · rename_i h2
          obtain ⟨_, k2, k3⟩ := C.strict hB h'
          exact ⟨trivial, by rw [k2, List.length_cons, Nat.add_assoc, Nat.add_comm 1], here_cons.2 ⟨h1, h2, k3⟩⟩
        · cases h'
      · cases h'
    · intro bs a d b hB ha h
      have h' : headR bs (c :: l) a = _ := h
      unfold headR at h'
      split at h'
      · rename_i h1
        split at h'
        · exact C.errs hB (by omega) h'
        · cases h'; omega
      · cases h'; exact ha
def OkW (ts : List ByteArray) (js : List JobP) : Prop := OkRows OkT ts ∧ OkRows OkJ js
/-- A plan's reading but for the test at the end. -/
def planG (bs : List Int) (a : Nat) : RR (List ByteArray × List JobP) := rbind (headR bs headL a) fun _ a => rbind (rowsR bs (textR bs) a) fun ts a1 => rbind (rowsR bs (jobR bs) a1) fun js a2 => .inr ((ts, js), a2)
theorem planR_planG (bs : List Int) : planR bs = rbind (planG bs 0) fun z a2 => if a2 = bs.length then .inr (z, a2) else .inl (182, a2) := by
  unfold planR planG
  rw [rbind_assoc]
  congr 1
  funext _ a
  rw [rbind_assoc]
  congr 1
  funext ts a1
  rw [rbind_assoc]
  rfl
theorem planGC : Codec planG (fun z => planW z.1 z.2) (fun z => OkW z.1 z.2) := by
  have D : Codec planG (fun z => headL ++ (rowsW textW z.1 ++ (rowsW jobW z.2 ++ []))) (fun z => True ∧ (OkRows OkT z.1 ∧ OkRows OkJ z.2)) := by
    refine Codec.seq (fun _ : List ByteArray × List JobP => ()) (headCC headL) (ok2 := fun z => OkRows OkT z.1 ∧ OkRows OkJ z.2) (fun u _ => ?_)
    have D1 : Codec (fun bs a => rbind (rowsR bs (textR bs) a) fun ts a1 => rbind (rowsR bs (jobR bs) a1) fun js a2 => .inr ((ts, js), a2)) (fun z : List ByteArray × List JobP => rowsW textW z.1 ++ (rowsW jobW z.2 ++ [])) (fun z => OkRows OkT z.1 ∧ (OkRows OkJ z.2 ∧ True)) := by
      refine Codec.seq (fun z : List ByteArray × List JobP => z.1) (Codec.rows textC) (ok2 := fun z => OkRows OkJ z.2 ∧ True) (fun ts hts => ?_)
      have D2 := Codec.seq (g := fun js _ a2 => (.inr ((ts, js), a2) : RR (List ByteArray × List JobP))) (fun z : List ByteArray × List JobP => z.2) (Codec.rows jobCC) (e2 := fun _ => []) (ok2 := fun z => z.1 = ts) (fun js hc => (Codec.pure (ts, js)).as (fun z => ⟨fun h => Prod.ext h.2 h.1, fun h => by rw [h]; exact ⟨rfl, rfl⟩⟩) (fun _ _ => rfl))
      exact D2.as (fun z => ⟨fun h => ⟨h.2.1, h.1⟩, fun h => ⟨h.2, h.1, trivial⟩⟩) (fun _ _ => rfl)
    exact D1.as (fun z => ⟨fun h => ⟨h.2.1, h.2.2, trivial⟩, fun h => ⟨rfl, h.1, h.2.1⟩⟩) (fun _ _ => rfl)
  refine D.as (fun z => ⟨fun h => ⟨trivial, h⟩, fun h => h.2⟩) (fun z h => ?_)
  simp [planW, rowsW, bytesL, headL]
theorem here_self (s v : List Int) : Here (s ++ v) 0 s := ⟨v, rfl⟩
theorem plan_reads {ts : List ByteArray} {js : List JobP} (h : OkW ts js) : planR (planW ts js) = .inr ((ts, js), (planW ts js).length) := by
  have h1 : planG (planW ts js) 0 = .inr ((ts, js), 0 + (planW ts js).length) := planGC.reads (x := (ts, js)) (Nat.zero_le _) h (by have := here_self (planW ts js) []; rw [List.append_nil] at this; exact this)
  rw [planR_planG, h1]
  generalize planW ts js = p
  show (if 0 + p.length = p.length then .inr ((ts, js), 0 + p.length) else .inl (182, 0 + p.length) : RR _) = _
  rw [if_pos (Nat.zero_add _), Nat.zero_add]
theorem plan_more {ts : List ByteArray} {js : List JobP} (h : OkW ts js) {more : List Int} (hm : more ≠ []) : ∃ b, planR (planW ts js ++ more) = .inl (182, b) := by
  have h1 : planG (planW ts js ++ more) 0 = .inr ((ts, js), 0 + (planW ts js).length) := planGC.reads (x := (ts, js)) (Nat.zero_le _) h (here_self _ _)
  rw [planR_planG, h1]
  generalize planW ts js = p
  refine ⟨0 + p.length, ?_⟩
  show (if 0 + p.length = (p ++ more).length then .inr ((ts, js), 0 + p.length) else .inl (182, 0 + p.length) : RR _) = _
  have := List.length_pos_iff.2 hm
  rw [if_neg (by rw [List.length_append]; omega)]
theorem plan_cut {ts : List ByteArray} {js : List JobP} (h : OkW ts js) {n : Nat} (hn : n < (planW ts js).length) : ∃ b, planR ((planW ts js).take n) = .inl (181, b) := by
  obtain ⟨b, hb⟩ := planGC.cut (bs := (planW ts js).take n) (a := 0) (x := (ts, js)) h ⟨Nat.zero_le _, List.take_prefix _ _, by
    show ((planW ts js).take n).length - 0 < (planW ts js).length
    rw [List.length_take]
    generalize (planW ts js).length = m at hn ⊢
    omega⟩
  exact ⟨b, by rw [planR_planG, hb]; rfl⟩
theorem plan_strict {bs : List Int} (hB : Bytes bs) {ts : List ByteArray} {js : List JobP} {a : Nat} (h : planR bs = .inr ((ts, js), a)) : OkW ts js ∧ bs = planW ts js := by
  rw [planR_planG] at h
  obtain ⟨⟨ts', js'⟩, a', h1, h2⟩ := rbind_in h
  split at h2
  · rename_i he
    injection h2 with h2
    injection h2 with h2 h3
    injection h2 with h4 h5
    subst h4 h5
    obtain ⟨k1, k2, k3⟩ := planGC.strict hB h1
    refine ⟨k1, ?_⟩
    obtain ⟨v, hv⟩ := k3
    have hv' : planW ts' js' ++ v = bs := hv
    have hl : (planW ts' js' ++ v).length = bs.length := by rw [hv']
    rw [List.length_append] at hl
    have k2' : a' = 0 + (planW ts' js').length := k2
    have : v = [] := List.eq_nil_of_length_eq_zero (by omega)
    rw [← hv', this, List.append_nil]
  · cases h2
end Go.Proofs.Ytoaopjbgaehpfaa.G
end
section
/- wire: a plan that may be can be written and read; how much is counted: plain. -/
namespace Go.Proofs.Ytoaopjbgaehpfaa.G
open Go.RowKit
set_option linter.unusedVariables false
set_option linter.unusedSimpArgs false
theorem steps_okS {ts : List ByteArray} {seen : List Int} {no : Nat} {j : JobP} (h : jobC ts seen no j = 0) (hn : JobNums j) : ∀ r ∈ j.rules, ∀ x ∈ r.1, OkS x := by
  obtain ⟨h1, h2, h3, h4⟩ := jobC_parts h
  unfold rulesB at h2
  rw [Bool.and_eq_true, decide_eq_true_eq] at h2
  intro r hr x hx
  have := List.all_eq_true.1 h2.2 r hr
  unfold ruleB at this
  simp only [Bool.and_eq_true, Bool.or_eq_true, beq_iff_eq] at this
  have hk : 1 ≤ x.1 ∧ x.1 ≤ 13 := by
    rcases this.2 with h | h
    · rw [List.eq_nil_of_length_eq_zero h] at hx
      exact absurd hx List.not_mem_nil
    · exact check_kinds h (stepOf ts x) (List.mem_map_of_mem hx)
  have h5 := List.all_eq_true.1 this.1.1 x hx
  unfold stepOk at h5
  refine ⟨hk, ?_⟩
  split at h5
  · rename_i hs
    rw [if_pos hs]
    exact (hn.steps r hr x hx).2
  · rename_i hs
    rw [if_neg hs]
    simpa using h5
theorem okW_of {ts : List ByteArray} {js : List JobP} (h : okP ts js = true) : OkW ts js := by
  unfold okP at h
  rw [Bool.and_eq_true, decide_eq_true_eq] at h
  obtain ⟨h1, h2⟩ := parts_texts h.1
  obtain ⟨a, b, _, d⟩ := texts_fit h1
  refine ⟨⟨by omega, fun s hs => ?_⟩, by omega, fun j hj => ?_⟩
  · have := d s hs
    show s.size < 268435456
    omega
  · have hn := nums_all h.1 j hj
    obtain ⟨s', n', h3, h4⟩ := jobsC_all h2 j hj
    have hs := steps_okS h3 hn
    refine ⟨fun n hm => ?_, ⟨by have := hn.rules; omega, fun r hr => ⟨hn.whens r hr, by have := hn.codes r hr; omega, hs r hr⟩⟩, ⟨by have := hn.vars; omega, fun v hv => hn.names v hv⟩, by have := hn.preds; omega, fun p hp => hn.froms p hp⟩
    unfold five at hm
    simp only [List.mem_cons, List.not_mem_nil, or_false] at hm
    rcases hm with rfl | rfl | rfl | rfl | rfl
    · exact hn.name
    · exact hn.run
    · exact hn.stage
    · exact hn.when_
    · exact hn.weight
end Go.Proofs.Ytoaopjbgaehpfaa.G
end
section
/- Chapter 18's awake. -/
namespace Go.Proofs.Ytoaopjbgaehpfaa.G
open Go.RowKit
attribute [local simp, local go_sem] alloc_drewN setCell_drewN
set_option linter.unusedVariables false
set_option linter.unusedSimpArgs false
set_option maxRecDepth 100000
def aTs : List ByteArray := [⟨#[97]⟩]
def aJob : JobP := ⟨⟨0, 0, 0, 0, 300⟩, false, [], [], []⟩
def aHead : List Int := [83, 72, 85, 84, 1, 0, 0]
def aAll : List Int := [83, 72, 85, 84, 1, 1, 1, 97, 1, 0, 0, 0, 0, 172, 2, 0, 0, 0, 0]
theorem aOk : okP aTs [aJob] = true := by kernel_rfl
theorem aBytes : planW aTs [aJob] = aAll := by kernel_rfl
theorem aCount : decCount aHead = 12 := by kernel_rfl
theorem aPlan : decPlan aHead = some ([], []) := by kernel_rfl
theorem aErrNil : decErr [] = 181 := by kernel_rfl
theorem aPlanNil : decPlan [] = none := by kernel_rfl
theorem bytesIn_nil (w : World) : BytesIn w none [] 0 := ⟨(fun i hi => absurd hi (Nat.not_lt_zero i)), (fun _ h => by cases h), (fun _ h => by cases h), ⟨by decide, fun b hb => absurd hb List.not_mem_nil⟩, by decide, by decide⟩
theorem byts_cells_map (bs : List Int) : byE.cells bs = bs.map (Value.int .u8) := by
  induction bs with
  | nil => rfl
  | cons b l ih => show byE.enc b ++ byE.cells l = _; rw [ih]; rfl
/-- Bytes in a block that was just made. -/
theorem bytesIn_new (w : World) (bs : List Int) (t : TypeId) (b c : Nat) (hb : b = w.heap.size) (hB : Bytes bs) (hc : bs.length ≤ c) (hc2 : c ≤ 9223372036854775807) : BytesIn (w.alloc (.cells (bs.map (Value.int .u8)).toArray t)) (some ⟨b, 0, none⟩) bs c := by
  subst hb
  refine ⟨fun i hi => ⟨_, rfl, ?_⟩, fun ad h => ?_, fun ad h => ?_, hB, hc, hc2⟩
  · rw [addr_add, Nat.zero_add, cell_of_row _ _ _ _ _ _ (heap_alloc_new w _), List.getElem?_toArray, List.getElem?_map, List.getElem?_eq_getElem hi]
    rfl
  · injection h with h; subst h; simp
  · injection h with h; subst h; rfl
theorem own_bytes {w : World} {base n c : Nat} {A : Option Addr} {bs : List Int} (h : byE.Own w base (.slice A n c) bs) (hB : Bytes bs) : BytesIn w A bs c ∧ n = bs.length := by
  rcases h.form with ⟨hv, rfl⟩ | ⟨g, c', hv, _, hg, hc, hc2⟩
  · injection hv with h1 h2 h3
    subst h1 h2 h3
    exact ⟨⟨(fun i hi => absurd hi (Nat.not_lt_zero i)), (fun _ h => by cases h), (fun _ h => by cases h), hB, by decide, by decide⟩, rfl⟩
  · injection hv with h1 h2 h3
    subst h1 h2 h3
    refine ⟨⟨fun i hi => ⟨_, rfl, ?_⟩, fun ad e => ?_, fun ad e => ?_, hB, hc, hc2⟩, rfl⟩
    · have := h.cell i bs[i] (List.getElem?_eq_getElem hi) 0 (.int .u8 bs[i]) rfl
      rw [addr_add]
      rw [show i * byE.sz + 0 = 0 + i from by show i * 1 + 0 = 0 + i; omega] at this
      exact this
    · injection e with e; subst e; exact hg
    · injection e with e; subst e; rfl
theorem awakePlan (w : World) (b : Nat) (hb : b = w.heap.size) : PlanIn ((w.alloc (.cells #[.string ⟨#[97]⟩] 9)).alloc (.cells #[.int .i64 0, .int .i64 0, .int .i64 0, .int .i64 0, .bool false, .int .i64 300, .slice none 0 0, .slice none 0 0, .slice none 0 0] 52)) (some ⟨b, 0, none⟩) aTs (some ⟨b + 1, 0, none⟩) [aJob] := by
  subst hb
  refine ⟨fun i hi => ?_, fun i hi => ?_, by decide, by decide, fun s hs => ?_, fun j hj => ?_⟩
  · have : i = 0 := by simp [aTs] at hi; omega
    subst this
    exact ⟨_, rfl, by rw [addr_add]; go_simp; rfl⟩
  · have : i = 0 := by simp at hi; omega
    subst this
    refine ⟨_, rfl, none, none, none, 0, 0, 0, ?_⟩
    rw [addr_add]
    have e : (⟨w.heap.size + 1, 0 + 0 * 9, none⟩ : Addr) = ⟨w.heap.size + 1, 0, none⟩ := rfl
    rw [e]
    refine ⟨by go_simp; rfl, by go_simp; rfl, by go_simp; rfl, by go_simp; rfl, by go_simp; rfl, by go_simp; rfl, by go_simp; rfl, by go_simp; rfl, by go_simp; rfl, ?_, ?_, ?_⟩ <;> (intro i hi; exact absurd hi (Nat.not_lt_zero i))
  · simp [aTs] at hs
    subst hs
    decide
  · simp at hj
    subst hj
    exact ⟨by decide, by decide, fun r hr => absurd hr List.not_mem_nil, by decide, by decide⟩
theorem blkb (w : World) (o o' : Obj) : ((w.alloc o).alloc o').heap[w.heap.size + 1]? = some o' := by
  have h := heap_alloc_new (w.alloc o) o'
  rw [show (w.alloc o).heap.size = w.heap.size + 1 from by simp] at h
  exact h
set_option maxHeartbeats 4000000 in
theorem awake0 (w : World) : Calls Try.prog 16 #[] w fun e w' => e = .returned (.bool true) ∧ But No w w' := by
  go_enter Try.func16, Try.ntmps16
  go_wp2_with (first | (go_at_call 12; refine (enc_ok 1 1 (awakePlan w w.heap.size rfl) aOk).mono ?_; rintro e w1 ⟨v, rfl, hown, hb⟩; (have HO := Lib.hid hown); (have HB := Lib.hid ((((But.refl No w).alloc (.cells #[.string ⟨#[97]⟩] 9)).alloc (.cells #[.int .i64 0, .int .i64 0, .int .i64 0, .int .i64 0, .bool false, .int .i64 300, .slice none 0 0, .slice none 0 0, .slice none 0 0] 52)).trans (But.of_below (S := No) hb))); clear hown hb))
  have hw1 := HB.out.size
  refine (decode0 (bytesIn_new w1 aHead 5 w1.heap.size 7 rfl ⟨by decide, by decide⟩ (by decide) (by decide))).mono ?_
  rintro e w2 ⟨hb2, hp2⟩
  rw [aPlan] at hp2
  obtain ⟨At, ct, Aj, cj, rfl, hpl⟩ := hp2
  rw [aCount]
  have HB2 := Lib.hid ((HB.out.alloc (.cells (aHead.map (Value.int .u8)).toArray 5)).trans hb2)
  have HO2 := Lib.hid ((HO.out.alloc (.cells (aHead.map (Value.int .u8)).toArray 5)).new hb2)
  clear hb2 hpl HO HB hw1
  go_wp2_with fail
  refine (decode0 (bytesIn_nil _)).mono ?_
  rintro e w3 ⟨hb3, hp3⟩
  rw [aPlanNil] at hp3
  subst hp3
  rw [aErrNil]
  have k0 : w3.cell? ⟨w2.heap.size, 0, none⟩ = some (.slice At 0 ct) := hb3.cell_some (blkcell (heap_alloc_new w2 (.cells #[.slice At 0 ct, .slice Aj 0 cj] 25)) 0 (by simp)) (fun c => c)
  have hs3 : w2.heap.size < w3.heap.size := by have := hb3.size; simp at this; omega
  have n1 : ¬ w3.heap.size = w2.heap.size := by omega
  have n2 : ¬ w2.heap.size = w3.heap.size := by omega
  have HB3 := Lib.hid ((HB2.out.alloc (.cells #[.slice At 0 ct, .slice Aj 0 cj] 25)).trans hb3)
  have HO3 := Lib.hid ((HO2.out.alloc (.cells #[.slice At 0 ct, .slice Aj 0 cj] 25)).new hb3)
  rw [aBytes] at HO3
  obtain ⟨A, c, rfl⟩ := HO3.out.slice
  clear hb3 HO2 HB2
  go_wp2_with fail
  refine (sameBytes0 A (some ⟨w3.heap.size + 1, 0, none⟩) c 19 aAll aAll _ ?_ ?_ (by decide) (by decide)).mono ?_
  · exact ((HO3.out.alloc _).alloc _).lies
  · intro hl
    exact ⟨_, rfl, byE.cells_new (blkb w3 _ _) rfl⟩
  rintro e w4 ⟨rfl, hq4⟩
  have hb4 := drewn_but hq4
  clear hq4
  rw [show eqB aAll aAll = true from decide_eq_true rfl]
  have k1 : w4.cell? ⟨w2.heap.size, 0, none⟩ = some (.slice At 0 ct) := hb4.cell_some ((((But.refl No w3).alloc _).alloc _).cell_some k0 (fun c => c)) (fun c => c)
  have HB4 := Lib.hid (((HB3.out.alloc _).alloc _).trans hb4)
  clear hb4 k0 HB3 HO3
  go_wp2_with fail
  go_ret
  exact ⟨rfl, HB4.out⟩
end Go.Proofs.Ytoaopjbgaehpfaa.G
end
section
/- WireCounts: walked. -/
namespace Go.Proofs.Ytoaopjbgaehpfaa.G
open Go.RowKit
attribute [local simp, local go_sem] alloc_drewN setCell_drewN
set_option linter.unusedVariables false
set_option linter.unusedSimpArgs false
set_option maxRecDepth 100000
theorem BytesIn.lies {w : World} {A : Option Addr} {bs : List Int} {c : Nat} (h : BytesIn w A bs c) : byE.Lies w A bs := lies1 (fun b => .int .u8 b) (fun _ => rfl) h.cells
theorem decErr_some {bs : List Int} {p : List ByteArray × List JobP} (h : decPlan bs = some p) : decErr bs = 0 := by
  unfold decPlan at h
  unfold decErr
  cases hr : planR bs with
  | inl e => rw [hr] at h; cases h
  | inr e =>
    obtain ⟨q, a⟩ := e
    rw [hr] at h
    dsimp only at h ⊢
    by_cases c : okP q.1 q.2 = true
    · rw [if_pos c]
    · rw [if_neg c] at h; cases h
/-- What Decode answers, in one form. -/
theorem DecPost.form {bs : List Int} {w w' : World} {e : Ending} (h : DecPost bs w e w') : But No w w' ∧ ∃ At nt ct Aj nj cj, e = .returned (.tuple #[.agg #[.slice At nt ct, .slice Aj nj cj], .int .i64 (decCount bs), .int .i64 (decErr bs)]) := by
  refine ⟨h.1, ?_⟩
  have h2 := h.2
  cases hd : decPlan bs with
  | none => rw [hd] at h2; exact ⟨none, 0, 0, none, 0, 0, h2⟩
  | some p =>
    obtain ⟨ts, js⟩ := p
    rw [hd] at h2
    obtain ⟨At, ct, Aj, cj, h3, _⟩ := h2
    exact ⟨At, _, ct, Aj, _, cj, by rw [decErr_some hd]; exact h3⟩
end Go.Proofs.Ytoaopjbgaehpfaa.G
end
section
/- The arguments of chapter 18's laws, opened: bytes, plans. -/
namespace Go.Proofs.Ytoaopjbgaehpfaa.G
open Go.RowKit
set_option linter.unusedVariables false
set_option linter.unusedSimpArgs false
set_option maxRecDepth 100000
theorem cel3 : Try.prog.cellsOf 3 = 1 := by kernel_rfl
theorem cel4 : Try.prog.cellsOf 4 = 1 := by kernel_rfl
theorem cel5 : Try.prog.cellsOf 5 = 1 := by kernel_rfl
theorem cel9 : Try.prog.cellsOf 9 = 1 := by kernel_rfl
theorem celTs : Try.prog.cellsOf 22 = 1 := by kernel_rfl
theorem celJs : Try.prog.cellsOf 23 = 1 := by kernel_rfl
theorem celRs : Try.prog.cellsOf 48 = 1 := by kernel_rfl
theorem celVs : Try.prog.cellsOf 49 = 1 := by kernel_rfl
theorem celSs : Try.prog.cellsOf 56 = 1 := by kernel_rfl
theorem celIs : Try.prog.cellsOf 50 = 1 := by kernel_rfl
theorem celV : Try.prog.cellsOf 81 = 2 := by kernel_rfl
theorem celS : Try.prog.cellsOf 79 = 2 := by kernel_rfl
theorem celR : Try.prog.cellsOf 58 = 2 := by kernel_rfl
theorem celJ : Try.prog.cellsOf 52 = 9 := by kernel_rfl
theorem celP : Try.prog.cellsOf 25 = 2 := by kernel_rfl
theorem add0 (b : Addr) : b.add 0 = b := by unfold Addr.add; rw [if_pos rfl]
theorem addS (b : Addr) (j : Nat) : b.add (j + 1) = ⟨b.block, b.off + (j + 1), none⟩ := by unfold Addr.add; rw [if_neg (by omega)]
theorem seen_bytes {w : World} {bs : List Int} {cs : List Value} (h : seesSlice (seesInt .u8) 1 w bs cs) : ∃ A c, cs = [.slice A bs.length c] ∧ bs.length ≤ c ∧ c ≤ 9223372036854775807 ∧ byE.Lies w A bs := by
  obtain ⟨A, c, h1, h2, h3, h4⟩ := h
  refine ⟨A, c, h1, h2, h3, lies1 (fun b => .int .u8 b) (fun _ => rfl) fun i hi => ?_⟩
  obtain ⟨ad, hA, cs, hcs, k⟩ := h4 i hi
  have hcs' : cs = [.int .u8 bs[i]] := hcs
  subst hcs'
  have := k 0 _ rfl
  rw [add0, Nat.mul_one] at this
  exact ⟨ad, hA, this⟩
end Go.Proofs.Ytoaopjbgaehpfaa.G
end
