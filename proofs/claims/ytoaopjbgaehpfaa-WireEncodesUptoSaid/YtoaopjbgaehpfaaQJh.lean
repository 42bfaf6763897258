/- Texts of this claim, joined: words and laws that the others use. -/
import Derived.Test.YtoaopjbgaehpfaaQJg
import Derived.Maps.OwnSet
import Derived.Lib.AppendStr
section
/- plan.texts, and what a plan is that comes in. -/
namespace Go.Proofs.Ytoaopjbgaehpfaa.G
open Go.RowKit
attribute [local simp, local go_sem] alloc_drewN setCell_drewN
set_option linter.unusedVariables false
set_option linter.unusedSimpArgs false
set_option maxRecDepth 100000
/-- Go's order of texts: at most. -/
def leB (x y : ByteArray) : Bool := Op.bytesLess x.toList y.toList || x.toList == y.toList
def txtB (ts : List ByteArray) (k : Nat) : Bool := (k == 0 || !(leB (ts.getD k .empty) (ts.getD (k - 1) .empty))) && decide ((ts.getD k .empty).size ≤ 4096)
def manyB (nt nj : Nat) : Bool := decide (nj ≤ 256) && decide (nt ≤ 65536)
def risesB (ts : List ByteArray) : Bool := (List.range ts.length).all (txtB ts)
def textsC (ts : List ByteArray) (nj : Nat) : Int := if manyB ts.length nj = true then (if risesB ts = true then 0 else 170) else 175
def TextsAt (w : World) (g : Nat) (At Aj : Option Addr) (nt ct nj cj : Nat) (ts : List ByteArray) (gk : Nat) (v : Value) (wr : World) : Prop := ∃ i : Nat, gk = ts.length - i ∧ i ≤ ts.length ∧ v = .int .i64 (i : Int) ∧ wr = w.alloc (.cells #[.slice At nt ct, .slice Aj nj cj] 25) ∧ (List.range i).all (txtB ts) = true
set_option maxHeartbeats 4000000 in
theorem texts0 (At : Option Addr) (ct : Nat) (ts : List ByteArray) (Aj : Option Addr) (nj cj : Nat) (w : World) (hT : StrsIn w At ts) (htl : ts.length ≤ 9223372036854775807) (hjl : nj ≤ 9223372036854775807) (hts : ∀ s ∈ ts, s.size ≤ 9223372036854775807) :
    Calls Try.prog 52 #[.agg #[.slice At ts.length ct, .slice Aj nj cj]] w fun e w' => e = .returned (.int .i64 (textsC ts nj)) ∧ Below w.heap.size w w' := by
  obtain ⟨R, hR⟩ : ∃ R, textsC ts nj = R := ⟨_, rfl⟩
  rw [hR]
  have HR := Lib.hid hR
  have HB0 := Lib.hid (show ∀ n, Below w.heap.size w ((w.alloc (.cells #[.slice At ts.length ct, .slice Aj nj cj] 25)).drewN n) from fun n => (((But.refl No w).alloc _).drewN n).belowNo)
  have HB := Lib.hid (show Below w.heap.size w (w.alloc (.cells #[.slice At ts.length ct, .slice Aj nj cj] 25)) from ((But.refl No w).alloc _).belowNo)
  by_cases c1 : 256 < nj
  · have d1 : decide ((256 : Int) < (nj : Int)) = true := decide_eq_true (by omega)
    have d1' : (256 : Int) < (nj : Int) := by omega
    have E := Lib.hid (hR.symm.trans (show textsC ts nj = 175 from if_neg (by unfold manyB; rw [decide_eq_false (by omega)]; simp)))
    clear hR hT hts
    go_enter Try.func52, Try.ntmps52
    go_wp2_with fail
    go_ret
    exact ⟨by rw [E.out]; rfl, HB.out⟩
  have d1 : decide ((256 : Int) < (nj : Int)) = false := decide_eq_false (by omega)
  have d1' : ¬ (256 : Int) < (nj : Int) := by omega
  by_cases c2 : 65536 < ts.length
  · have d2 : decide ((65536 : Int) < (ts.length : Int)) = true := decide_eq_true (by omega)
    have d2' : (65536 : Int) < (ts.length : Int) := by omega
    have E := Lib.hid (hR.symm.trans (show textsC ts nj = 175 from if_neg (by unfold manyB; rw [decide_eq_false (show ¬ ts.length ≤ 65536 by omega)]; simp)))
    clear hR hT hts
    go_enter Try.func52, Try.ntmps52
    go_wp2_with fail
    go_ret
    exact ⟨by rw [E.out]; rfl, HB.out⟩
  have d2 : decide ((65536 : Int) < (ts.length : Int)) = false := decide_eq_false (by omega)
  have d2' : ¬ (65536 : Int) < (ts.length : Int) := by omega
  have hmany : textsC ts nj = if risesB ts = true then 0 else 170 := if_pos (by unfold manyB; rw [decide_eq_true (by omega), decide_eq_true (by omega)]; rfl)
  have HM := Lib.hid (hR.symm.trans hmany)
  have HT := Lib.hid hT
  have HS := Lib.hid hts
  have hbad : ∀ i, i < ts.length → txtB ts i = false → (if risesB ts = true then (0 : Int) else 170) = 170 := fun i hi hb => by
    rw [if_neg]
    intro ha
    have := List.all_eq_true.1 ha i (List.mem_range.2 hi)
    rw [hb] at this
    cases this
  have HBAD := Lib.hid hbad
  clear hT hbad hR hmany hts HR
  go_enter Try.func52, Try.ntmps52
  go_wp2_with fail
  go_loopg [18] ts.length (fun gk v wr => TextsAt w w.heap.size At Aj ts.length ct nj cj ts gk v wr)
  case atStart => exact ⟨0, rfl, Nat.zero_le _, rfl, rfl, rfl⟩
  case round =>
    obtain ⟨i, hgk, hi, rfl, rfl, hall⟩ := hrel
    have HGK := Lib.hid hgk
    have HA := Lib.hid hall
    clear hgk hall
    by_cases hlt : i < ts.length
    · obtain ⟨ad, hA, k1⟩ := HT.out i hlt
      cases hA
      obtain ⟨p, hp⟩ : ∃ p, ts[i] = p := ⟨_, rfl⟩
      have hps : p.size ≤ 9223372036854775807 := hp ▸ HS.out _ (List.getElem_mem hlt)
      have hpd : ts.getD i .empty = p := by rw [List.getD_eq_getElem?_getD, List.getElem?_eq_getElem hlt, hp]; rfl
      rw [hp] at k1
      have hlt' : (i : Int) < (ts.length : Int) := by omega
      have dl : decide ((i : Int) < (ts.length : Int)) = true := decide_eq_true hlt'
      have HP := Lib.hid hpd
      have hnext : txtB ts i = true → (List.range (i + 1)).all (txtB ts) = true := fun hb => by rw [List.range_succ, List.all_append, HA.out]; simpa using hb
      have HNX := Lib.hid hnext
      have hBq : txtB ts i = ((i == 0 || !(leB p (ts.getD (i - 1) .empty))) && decide (p.size ≤ 4096)) := by unfold txtB; rw [hpd]
      have HBq := Lib.hid hBq
      have k1a : (w.alloc (.cells #[.slice (some ad) ts.length ct, .slice Aj nj cj] 25)).cell? (ad.add i) = some (.string p) := ((But.refl No w).alloc _).cell_some k1 (fun c => c)
      clear hp hpd hnext hBq
      obtain ⟨b2, hb2⟩ : ∃ b, decide (p.size ≤ 4096) = b := ⟨_, rfl⟩
      have hb2' : decide ((4096 : Int) < (p.size : Int)) = !b2 := by
        rw [← hb2]
        by_cases h : p.size ≤ 4096
        · rw [decide_eq_false (by omega), decide_eq_true h]; rfl
        · rw [decide_eq_true (by omega), decide_eq_false h]; rfl
      have HB2 := Lib.hid hb2
      by_cases c3 : i = 0
      · have d3 : decide ((0 : Int) < (i : Int)) = false := decide_eq_false (by omega)
        have d3' : ¬ (0 : Int) < (i : Int) := by omega
        cases b2 with
        | false =>
          have d4 : (4096 : Int) < (p.size : Int) := by have := of_decide_eq_true hb2'; exact this
          have E := Lib.hid (HM.out.trans <| HBAD.out i hlt (by rw [HBq.out, HB2.out, Bool.and_false]))
          clear hb2 hb2' c3
          go_wp2_with fail
          go_ret
          exact ⟨by rw [E.out]; rfl, HB.out⟩
        | true =>
          have d4 : ¬ (4096 : Int) < (p.size : Int) := by have := of_decide_eq_false hb2'; exact this
          have E := Lib.hid (HNX.out (by rw [HBq.out, HB2.out, c3]; rfl))
          clear hb2 hb2' c3
          go_wp2_with fail
          go_roundg (ts.length - (i + 1))
          case measure => rw [HGK.out]; omega
          case rel => exact ⟨i + 1, rfl, by omega, by go_num, rfl, E.out⟩
      obtain ⟨m, rfl⟩ : ∃ m, i = m + 1 := ⟨i - 1, by omega⟩
      obtain ⟨ad2, hA2, k2⟩ := HT.out m (by omega)
      cases hA2
      obtain ⟨q, hq⟩ : ∃ q, ts[m] = q := ⟨_, rfl⟩
      have hqd : ts.getD m .empty = q := by rw [List.getD_eq_getElem?_getD, List.getElem?_eq_getElem (by omega), hq]; rfl
      rw [hq] at k2
      have k2a : (w.alloc (.cells #[.slice (some ad) ts.length ct, .slice Aj nj cj] 25)).cell? (ad.add m) = some (.string q) := ((But.refl No w).alloc _).cell_some k2 (fun c => c)
      obtain ⟨b1, hb1⟩ : ∃ b, leB p q = b := ⟨_, rfl⟩
      have HBr := Lib.hid (show txtB ts (m + 1) = (!b1 && b2) from by rw [HBq.out, HB2.out, Nat.add_sub_cancel, hqd, hb1]; rfl)
      unfold leB at hb1
      have k1b : (w.alloc (.cells #[.slice (some ad) ts.length ct, .slice Aj nj cj] 25)).cell? ⟨ad.block, ad.off + (m + 1), none⟩ = some (.string p) := by
        unfold Addr.add at k1a
        rw [if_neg (by omega)] at k1a
        exact k1a
      have d3 : decide ((0 : Int) < ((m + 1 : Nat) : Int)) = true := decide_eq_true (by omega)
      have d3' : (0 : Int) < ((m : Int) + 1) := by omega
      clear hq hqd c3
      cases b1 with
      | true =>
        have E := Lib.hid (HM.out.trans <| HBAD.out (m + 1) hlt (by rw [HBr.out]; rfl))
        clear hb2 hb2'
        go_wp2_with fail
        go_ret
        exact ⟨by rw [E.out]; rfl, HB.out⟩
      | false =>
        cases b2 with
        | false =>
          have d4 : (4096 : Int) < (p.size : Int) := by have := of_decide_eq_true hb2'; exact this
          have E := Lib.hid (HM.out.trans <| HBAD.out (m + 1) hlt (by rw [HBr.out]; rfl))
          clear hb2 hb2'
          go_wp2_with fail
          go_ret
          exact ⟨by rw [E.out]; rfl, HB.out⟩
        | true =>
          have d4 : ¬ (4096 : Int) < (p.size : Int) := by have := of_decide_eq_false hb2'; exact this
          have E := Lib.hid (HNX.out (by rw [HBr.out]; rfl))
          clear hb2 hb2'
          go_wp2_with fail
          go_roundg (ts.length - (m + 1 + 1))
          case measure => rw [HGK.out]; omega
          case rel => exact ⟨m + 1 + 1, rfl, by omega, by go_num, rfl, E.out⟩
    · obtain rfl : i = ts.length := by omega
      have hlt' : ¬ (ts.length : Int) < (ts.length : Int) := by omega
      have E := Lib.hid (HM.out.trans <| show (if risesB ts = true then (0 : Int) else 170) = 0 from if_pos HA.out)
      go_wp2_with fail
      go_ret
      exact ⟨by rw [E.out]; rfl, HB.out⟩
end Go.Proofs.Ytoaopjbgaehpfaa.G
end
section
/- plan.parts: all jobs looked at. -/
namespace Go.Proofs.Ytoaopjbgaehpfaa.G
open Go.RowKit
attribute [local simp, local go_sem] alloc_drewN setCell_drewN
set_option linter.unusedVariables false
set_option linter.unusedSimpArgs false
set_option maxRecDepth 100000
def fourF : Array Value := #[.func (.func 64) #[] #[], .func (.func 65) #[] #[], .func (.func 66) #[] #[], .func (.func 67) #[] #[]]
theorem looks0 (w : World) :
    Calls Try.prog 53 #[] w fun e w' => e = .returned (.slice (some ⟨w.heap.size, 0, none⟩) 4 4) ∧ w' = w.alloc (.cells fourF 97) := by
  go_enter Try.func53, Try.ntmps53
  go_wp2_with fail
  go_ret
  exact ⟨rfl, rfl⟩
/-- A job that comes in. -/
structure JobP where
  one : JobN
  allow : Bool
  rules : List (List (Int × Int) × Int)
  vars : List (Int × Int)
  preds : List Int
/-- It lies at a place. -/
structure JobIn (w : World) (a : Addr) (j : JobP) (Ar Av Ap : Option Addr) (cr cv cp : Nat) : Prop where
  c0 : w.cell? a = some (.int .i64 j.one.name)
  c1 : w.cell? ⟨a.block, a.off + 1, none⟩ = some (.int .i64 j.one.run)
  c2 : w.cell? ⟨a.block, a.off + 2, none⟩ = some (.int .i64 j.one.stage)
  c3 : w.cell? ⟨a.block, a.off + 3, none⟩ = some (.int .i64 j.one.when_)
  c4 : w.cell? ⟨a.block, a.off + 4, none⟩ = some (.bool j.allow)
  c5 : w.cell? ⟨a.block, a.off + 5, none⟩ = some (.int .i64 j.one.weight)
  c6 : w.cell? ⟨a.block, a.off + 6, none⟩ = some (.slice Ar j.rules.length cr)
  c7 : w.cell? ⟨a.block, a.off + 7, none⟩ = some (.slice Av j.vars.length cv)
  c8 : w.cell? ⟨a.block, a.off + 8, none⟩ = some (.slice Ap j.preds.length cp)
  rules : RulesIn w Ar j.rules
  vars : PairsIn w Av j.vars
  preds : IntsIn w Ap j.preds
def JobsIn (w : World) (A : Option Addr) (js : List JobP) : Prop := ∀ i (hi : i < js.length), ∃ ad, A = some ad ∧ ∃ Ar Av Ap cr cv cp, JobIn w (ad.add (i * 9)) js[i] Ar Av Ap cr cv cp
/-- Its lengths are those of slices (and its rules' codes fit into memory). -/
structure JobFits (j : JobP) : Prop where
  name : (Lit.int .i64 j.one.name).wf = true
  rules : j.rules.length ≤ 9223372036854775807
  codes : ∀ r ∈ j.rules, r.1.length * 25 ≤ 140737488355328
  vars : j.vars.length ≤ 9223372036854775807
  preds : j.preds.length ≤ 9223372036854775807
def jobC (ts : List ByteArray) (seen : List Int) (no : Nat) (j : JobP) : Int :=
  if fieldsB ts.length seen j.one = true then (if rulesB ts j.rules = true then (if varsB ts j.vars = true then (if predsB no j.preds = true then 0 else 174) else 173) else 172) else 171
def jobsC (ts : List ByteArray) : List Int → Nat → List JobP → Int
  | _, _, [] => 0
  | seen, no, j :: l => if jobC ts seen no j = 0 then jobsC ts (j.one.name :: seen) (no + 1) l else jobC ts seen no j
def partsC (ts : List ByteArray) (js : List JobP) : Int := if textsC ts js.length = 0 then jobsC ts [] 0 js else textsC ts js.length
/-- The looker between two jobs, its cells as said. -/
structure LookIn (w : World) (g b r : Nat) (cs : Array Value) (seen : List Int) (wr : World) : Prop where
  but : But No w wr
  cells : wr.heap[g]? = some (.cells cs 94 (0, 0))
  row : wr.heap[r]? = some (.cells fourF 97 (0, 0))
  names : NamesM wr b seen
structure LookAt (w : World) (g b r : Nat) (At Aj : Option Addr) (nt ct nj cj : Nat) (seen : List Int) (wr : World) : Prop where
  but : But No w wr
  cells : ∃ c2 c3 c4 c5 c6 c7 c8 c9 c10 c11 : Value, wr.heap[g]? = some (.cells #[.slice At nt ct, .slice Aj nj cj, c2, c3, c4, c5, c6, c7, c8, c9, c10, c11, .map (some b)] 94 (0, 0))
  row : wr.heap[r]? = some (.cells fourF 97 (0, 0))
  names : NamesM wr b seen
theorem NamesM.keep {w w' : World} {b : Nat} {seen : List Int} (h : NamesM w b seen) (hb : w'.heap[b]? = w.heap[b]?) : NamesM w' b seen := by
  obtain ⟨D, ⟨es, clock, h1, h2⟩, h3⟩ := h
  exact ⟨D, ⟨es, clock, hb.trans h1, h2⟩, h3⟩
theorem NamesM.lt {w : World} {b : Nat} {seen : List Int} (h : NamesM w b seen) : b < w.heap.size := by
  obtain ⟨D, h1, _⟩ := h
  exact h1.lt
def jobCells (At Aj : Option Addr) (nt ct nj cj b : Nat) (no : Int) (j : JobP) (Ar Av Ap : Option Addr) (cr cv cp : Nat) : Array Value :=
  #[.slice At nt ct, .slice Aj nj cj, .int .i64 no, .int .i64 j.one.name, .int .i64 j.one.run, .int .i64 j.one.stage, .int .i64 j.one.when_, .bool j.allow, .int .i64 j.one.weight, .slice Ar j.rules.length cr, .slice Av j.vars.length cv, .slice Ap j.preds.length cp, .map (some b)]
theorem LookAt.laid {w : World} {g b r : Nat} {At Aj : Option Addr} {nt ct nj cj : Nat} {seen : List Int} {wr : World} (h : LookAt w g b r At Aj nt ct nj cj seen wr) (hwg : ¬ g < w.heap.size) (hgr : ¬ g = r) (hgb : ¬ g = b) (no : Int) (j : JobP) (Ar Av Ap : Option Addr) (cr cv cp : Nat) (o : Obj) :
    LookIn w g b r (jobCells At Aj nt ct nj cj b no j Ar Av Ap cr cv cp) seen (((((((((((((wr.setCell ⟨g, 2, none⟩ (.int .i64 no)).setCell ⟨g, 3, none⟩ (.int .i64 j.one.name)).setCell ⟨g, 4, none⟩ (.int .i64 j.one.run)).setCell ⟨g, 5, none⟩ (.int .i64 j.one.stage)).setCell ⟨g, 6, none⟩ (.int .i64 j.one.when_)).setCell ⟨g, 7, none⟩ (.bool j.allow)).setCell ⟨g, 8, none⟩ (.int .i64 j.one.weight)).setCell ⟨g, 9, none⟩ (.slice Ar j.rules.length cr)).setCell ⟨g, 10, none⟩ (.slice Av j.vars.length cv)).setCell ⟨g, 11, none⟩ (.slice Ap j.preds.length cp)).alloc o).drew)) := by
  obtain ⟨c2, c3, c4, c5, c6, c7, c8, c9, c10, c11, hc⟩ := h.cells
  have hg2 : No g ∨ w.heap.size ≤ g := .inr (by omega)
  have hrl := lt_of_block h.row
  have hbl := h.names.lt
  have hdr : ∀ w : World, w.drew.heap = w.heap := fun _ => rfl
  have hgr' : r ≠ g := fun e => hgr e.symm
  obtain ⟨D, m1, hD⟩ := h.names
  have hb' : b ≠ g := fun e => hgb e.symm
  have a1 := h.but
  have r1 := h.row
  have b1 := hc
  have a2 := a1.setCell (p := ⟨g, 2, none⟩) hg2 (.int .i64 no)
  have r2 := blkfar r1 (p := ⟨g, 2, none⟩) hgr' (.int .i64 no)
  have m2 := m1.setCell (a := ⟨g, 2, none⟩) hb' (.int .i64 no)
  have b2 := blkset b1 2 (.int .i64 no)
  have a3 := a2.setCell (p := ⟨g, 3, none⟩) hg2 (.int .i64 j.one.name)
  have r3 := blkfar r2 (p := ⟨g, 3, none⟩) hgr' (.int .i64 j.one.name)
  have m3 := m2.setCell (a := ⟨g, 3, none⟩) hb' (.int .i64 j.one.name)
  have b3 := blkset b2 3 (.int .i64 j.one.name)
  have a4 := a3.setCell (p := ⟨g, 4, none⟩) hg2 (.int .i64 j.one.run)
  have r4 := blkfar r3 (p := ⟨g, 4, none⟩) hgr' (.int .i64 j.one.run)
  have m4 := m3.setCell (a := ⟨g, 4, none⟩) hb' (.int .i64 j.one.run)
  have b4 := blkset b3 4 (.int .i64 j.one.run)
  have a5 := a4.setCell (p := ⟨g, 5, none⟩) hg2 (.int .i64 j.one.stage)
  have r5 := blkfar r4 (p := ⟨g, 5, none⟩) hgr' (.int .i64 j.one.stage)
  have m5 := m4.setCell (a := ⟨g, 5, none⟩) hb' (.int .i64 j.one.stage)
  have b5 := blkset b4 5 (.int .i64 j.one.stage)
  have a6 := a5.setCell (p := ⟨g, 6, none⟩) hg2 (.int .i64 j.one.when_)
  have r6 := blkfar r5 (p := ⟨g, 6, none⟩) hgr' (.int .i64 j.one.when_)
  have m6 := m5.setCell (a := ⟨g, 6, none⟩) hb' (.int .i64 j.one.when_)
  have b6 := blkset b5 6 (.int .i64 j.one.when_)
  have a7 := a6.setCell (p := ⟨g, 7, none⟩) hg2 (.bool j.allow)
  have r7 := blkfar r6 (p := ⟨g, 7, none⟩) hgr' (.bool j.allow)
  have m7 := m6.setCell (a := ⟨g, 7, none⟩) hb' (.bool j.allow)
  have b7 := blkset b6 7 (.bool j.allow)
  have a8 := a7.setCell (p := ⟨g, 8, none⟩) hg2 (.int .i64 j.one.weight)
  have r8 := blkfar r7 (p := ⟨g, 8, none⟩) hgr' (.int .i64 j.one.weight)
  have m8 := m7.setCell (a := ⟨g, 8, none⟩) hb' (.int .i64 j.one.weight)
  have b8 := blkset b7 8 (.int .i64 j.one.weight)
  have a9 := a8.setCell (p := ⟨g, 9, none⟩) hg2 (.slice Ar j.rules.length cr)
  have r9 := blkfar r8 (p := ⟨g, 9, none⟩) hgr' (.slice Ar j.rules.length cr)
  have m9 := m8.setCell (a := ⟨g, 9, none⟩) hb' (.slice Ar j.rules.length cr)
  have b9 := blkset b8 9 (.slice Ar j.rules.length cr)
  have a10 := a9.setCell (p := ⟨g, 10, none⟩) hg2 (.slice Av j.vars.length cv)
  have r10 := blkfar r9 (p := ⟨g, 10, none⟩) hgr' (.slice Av j.vars.length cv)
  have m10 := m9.setCell (a := ⟨g, 10, none⟩) hb' (.slice Av j.vars.length cv)
  have b10 := blkset b9 10 (.slice Av j.vars.length cv)
  have a11 := a10.setCell (p := ⟨g, 11, none⟩) hg2 (.slice Ap j.preds.length cp)
  have r11 := blkfar r10 (p := ⟨g, 11, none⟩) hgr' (.slice Ap j.preds.length cp)
  have m11 := m10.setCell (a := ⟨g, 11, none⟩) hb' (.slice Ap j.preds.length cp)
  have b11 := blkset b10 11 (.slice Ap j.preds.length cp)
  simp only [List.setIfInBounds_toArray, List.set_cons_zero, List.set_cons_succ] at b11
  exact ⟨(a11.alloc o).drew, by rw [hdr]; exact blkold b11 o, by rw [hdr]; exact blkold r11 o, ⟨D, (m11.alloc o).drew, hD⟩⟩
theorem LookIn.at {w : World} {g b r : Nat} {At Aj : Option Addr} {nt ct nj cj : Nat} {no : Int} {j : JobP} {Ar Av Ap : Option Addr} {cr cv cp : Nat} {seen : List Int} {wr : World} (h : LookIn w g b r (jobCells At Aj nt ct nj cj b no j Ar Av Ap cr cv cp) seen wr) : LookAt w g b r At Aj nt ct nj cj seen wr :=
  ⟨h.but, ⟨_, _, _, _, _, _, _, _, _, _, h.cells⟩, h.row, h.names⟩
theorem LookIn.step {w : World} {g b r : Nat} {cs : Array Value} {seen : List Int} {wr wr' : World} (h : LookIn w g b r cs seen wr) (hb : Below wr.heap.size wr wr') : LookIn w g b r cs seen wr' :=
  ⟨h.but.trans (But.of_below hb), (hb.block g (lt_of_block h.cells)).trans h.cells, (hb.block r (lt_of_block h.row)).trans h.row, h.names.keep (hb.block b h.names.lt)⟩
theorem IntsIn.but {w w' : World} {A : Option Addr} {t : List Int} (h : IntsIn w A t) (hb : But No w w') : IntsIn w' A t := fun i hi => by
  obtain ⟨ad, hA, k⟩ := h i hi
  exact ⟨ad, hA, hb.cell_some k (fun c => c)⟩
theorem RulesIn.but {w w' : World} {A : Option Addr} {t : List (List (Int × Int) × Int)} (h : RulesIn w A t) (hb : But No w w') : RulesIn w' A t := fun i hi => by
  obtain ⟨ad, hA, A', c', k1, k2, k3⟩ := h i hi
  exact ⟨ad, hA, A', c', hb.cell_some k1 (fun c => c), hb.cell_some k2 (fun c => c), k3.but hb⟩
/-- The four looks. -/
theorem look1 {w : World} {g b r : Nat} {At Aj : Option Addr} {nt ct nj cj : Nat} {no : Int} {j : JobP} {Ar Av Ap : Option Addr} {cr cv cp : Nat} {seen : List Int} {wr : World} (h : LookIn w g b r (jobCells At Aj nt ct nj cj b no j Ar Av Ap cr cv cp) seen wr)
    (hwb : ¬ b < w.heap.size) (hgb : ¬ g = b) (hbr : ¬ b = r) (hs : seen.length ≤ 256) (hf : JobFits j) (c : Int) (hc : (if fieldsB nt seen j.one = true then (0 : Int) else 171) = c) :
    Calls Try.prog 64 #[.pointer (some ⟨g, 0, none⟩)] wr fun e w' => e = .returned (.int .i64 c) ∧ LookIn w g b r (jobCells At Aj nt ct nj cj b no j Ar Av Ap cr cv cp) (j.one.name :: seen) w' := by
  have k := fun i hi => blkcell h.cells i hi
  refine (fields0 g b At nt ct seen j.one j.allow Ar Av Ap j.rules.length cr j.vars.length cv j.preds.length cp wr (k 0 (by simp [jobCells])) (k 3 (by simp [jobCells])) (k 4 (by simp [jobCells])) (k 5 (by simp [jobCells])) (k 6 (by simp [jobCells])) (k 7 (by simp [jobCells])) (k 8 (by simp [jobCells])) (k 9 (by simp [jobCells])) (k 10 (by simp [jobCells])) (k 11 (by simp [jobCells])) (k 12 (by simp [jobCells])) hgb h.names hs hf.name).mono ?_
  rintro e w' ⟨rfl, hb, hn⟩
  refine ⟨by rw [hc], ⟨h.but.trans_ hb (fun k hk e => hwb (e ▸ hk)), (hb.block g (lt_of_block h.cells) hgb).trans h.cells, (hb.block r (lt_of_block h.row) (fun e => hbr e.symm)).trans h.row, hn⟩⟩
theorem look2 {w : World} {g b r : Nat} {At Aj : Option Addr} {ts : List ByteArray} {ct nj cj : Nat} {no : Int} {j : JobP} {Ar Av Ap : Option Addr} {cr cv cp : Nat} {seen : List Int} {wr : World} (h : LookIn w g b r (jobCells At Aj ts.length ct nj cj b no j Ar Av Ap cr cv cp) seen wr)
    (hT : StrsIn w At ts) (hR : RulesIn w Ar j.rules) (hts : ∀ s ∈ ts, s.size ≤ 9223372036854775807) (htl : ts.length ≤ 9223372036854775807) (hf : JobFits j) (c : Int) (hc : (if rulesB ts j.rules = true then (0 : Int) else 172) = c) :
    Calls Try.prog 65 #[.pointer (some ⟨g, 0, none⟩)] wr fun e w' => e = .returned (.int .i64 c) ∧ LookIn w g b r (jobCells At Aj ts.length ct nj cj b no j Ar Av Ap cr cv cp) seen w' := by
  have k := fun i hi => blkcell h.cells i hi
  refine (rules0 g At ct ts Ar cr j.rules wr (k 0 (by simp [jobCells])) (k 9 (by simp [jobCells])) (hT.but h.but) (hR.but h.but) hts htl hf.rules hf.codes).mono ?_
  rintro e w' ⟨rfl, hb⟩
  exact ⟨by rw [hc], h.step hb⟩
theorem look3 {w : World} {g b r : Nat} {At Aj : Option Addr} {ts : List ByteArray} {ct nj cj : Nat} {no : Int} {j : JobP} {Ar Av Ap : Option Addr} {cr cv cp : Nat} {seen : List Int} {wr : World} (h : LookIn w g b r (jobCells At Aj ts.length ct nj cj b no j Ar Av Ap cr cv cp) seen wr)
    (hT : StrsIn w At ts) (hV : PairsIn w Av j.vars) (hts : ∀ s ∈ ts, s.size ≤ 9223372036854775807) (htl : ts.length ≤ 9223372036854775807) (hf : JobFits j) (c : Int) (hc : (if varsB ts j.vars = true then (0 : Int) else 173) = c) :
    Calls Try.prog 66 #[.pointer (some ⟨g, 0, none⟩)] wr fun e w' => e = .returned (.int .i64 c) ∧ LookIn w g b r (jobCells At Aj ts.length ct nj cj b no j Ar Av Ap cr cv cp) seen w' := by
  have k := fun i hi => blkcell h.cells i hi
  refine (vars0 g At ct ts Av cv j.vars wr (k 0 (by simp [jobCells])) (k 10 (by simp [jobCells])) (hT.but h.but) (hV.but h.but) hts htl hf.vars).mono ?_
  rintro e w' ⟨rfl, hb⟩
  exact ⟨by rw [hc], h.step hb⟩
theorem look4 {w : World} {g b r : Nat} {At Aj : Option Addr} {ts : List ByteArray} {ct nj cj : Nat} {no : Int} {j : JobP} {Ar Av Ap : Option Addr} {cr cv cp : Nat} {seen : List Int} {wr : World} (h : LookIn w g b r (jobCells At Aj ts.length ct nj cj b no j Ar Av Ap cr cv cp) seen wr)
    (hP : IntsIn w Ap j.preds) (hf : JobFits j) (c : Int) (hc : (if predsB no j.preds = true then (0 : Int) else 174) = c) :
    Calls Try.prog 67 #[.pointer (some ⟨g, 0, none⟩)] wr fun e w' => e = .returned (.int .i64 c) ∧ LookIn w g b r (jobCells At Aj ts.length ct nj cj b no j Ar Av Ap cr cv cp) seen w' := by
  have k := fun i hi => blkcell h.cells i hi
  refine (edges0 g no Ap cp j.preds wr (k 2 (by simp [jobCells])) (k 11 (by simp [jobCells])) (hP.but h.but) hf.preds).mono ?_
  rintro e w' ⟨rfl, rfl⟩
  exact ⟨by rw [hc], h⟩
/-- Between two looks at a job. -/
def InAt (w : World) (g b r : Nat) (cs : Array Value) (ts : List ByteArray) (i : Nat) (j : JobP) (seen : List Int) (gk : Nat) (v : Value) (wr : World) : Prop :=
  ∃ k : Nat, gk = 4 - k ∧ k ≤ 4 ∧ v = .int .i64 (k : Int) ∧ LookIn w g b r cs (if k = 0 then seen else j.one.name :: seen) wr ∧ (1 ≤ k → fieldsB ts.length seen j.one = true) ∧ (2 ≤ k → rulesB ts j.rules = true) ∧ (3 ≤ k → varsB ts j.vars = true) ∧ (4 ≤ k → predsB i j.preds = true)
def PartsAt (w : World) (g b r : Nat) (At Aj : Option Addr) (ts : List ByteArray) (ct cj : Nat) (js : List JobP) (gk : Nat) (v : Value) (wr : World) : Prop :=
  ∃ i : Nat, gk = js.length - i ∧ i ≤ js.length ∧ v = .int .i64 (i : Int) ∧ ∃ seen : List Int, seen.length = i ∧ jobsC ts seen i (js.drop i) = jobsC ts [] 0 js ∧ LookAt w g b r At Aj ts.length ct js.length cj seen wr
set_option maxHeartbeats 8000000 in
theorem parts0 (At : Option Addr) (ct : Nat) (ts : List ByteArray) (Aj : Option Addr) (cj : Nat) (js : List JobP) (w : World) (hT : StrsIn w At ts) (hJ : JobsIn w Aj js) (htl : ts.length ≤ 9223372036854775807) (hjl : js.length ≤ 9223372036854775807) (hts : ∀ s ∈ ts, s.size ≤ 9223372036854775807) (hjs : ∀ j ∈ js, JobFits j) :
    Calls Try.prog 39 #[.agg #[.slice At ts.length ct, .slice Aj js.length cj]] w fun e w' => (∃ n, e = .returned (.tuple #[.int .i64 n, .int .i64 (partsC ts js)])) ∧ Below w.heap.size w w' := by
  obtain ⟨R, hR⟩ : ∃ R, partsC ts js = R := ⟨_, rfl⟩
  rw [hR]
  have HR := Lib.hid hR
  have HT := Lib.hid hT
  have HJ := Lib.hid hJ
  have HS := Lib.hid hts
  have HF := Lib.hid hjs
  obtain ⟨T, hTC⟩ : ∃ T, textsC ts js.length = T := ⟨_, rfl⟩
  have HTX := Lib.hid (fun (W : World) (h : But No w W) => hTC ▸ texts0 At ct ts Aj js.length cj W (hT.but h) htl hjl hts)
  have HTC := Lib.hid hTC
  clear hR hT hJ hts hjs hTC
  by_cases ct0 : T = 0
  case neg =>
    have E := Lib.hid (show R = T from HR.out.symm.trans ((if_neg (by rw [HTC.out]; exact ct0)).trans HTC.out))
    have dt : (T == 0) = false := by simpa using ct0
    go_enter Try.func39, Try.ntmps39
    go_wp2_with (first | (go_at_call 52; refine (HTX.out _ ((But.refl No w).alloc _)).mono ?_; rintro e w1 ⟨rfl, hb1⟩; (have HB1 := Lib.hid (((But.refl No w).alloc _).trans (But.of_below (S := No) hb1))); clear hb1))
    go_ret2
    exact ⟨⟨0, by rw [E.out]; rfl⟩, HB1.out.belowNo⟩
  subst ct0
  have E0 := Lib.hid (show R = jobsC ts [] 0 js from HR.out.symm.trans (if_pos HTC.out))
  have hj256 : js.length ≤ 256 := by
    have h := HTC.out
    unfold textsC at h
    by_cases hm : manyB ts.length js.length = true
    · unfold manyB at hm
      rw [Bool.and_eq_true, decide_eq_true_eq] at hm
      exact hm.1
    · rw [if_neg hm] at h
      exact absurd h (by decide)
  have hmm := @run_makeMap Try.prog
  go_enter Try.func39, Try.ntmps39
  go_wp2_with (first | (go_at_call 52; refine (HTX.out _ ((But.refl No w).alloc _)).mono ?_; rintro e w1 ⟨rfl, hb1⟩; (have hq0 := (hb1.cell (p := ⟨w.heap.size, 0, none⟩) (by simp)).trans (show _ = some (.slice At ts.length ct) from by go_simp)); (have hq1 := (hb1.cell (p := ⟨w.heap.size, 1, none⟩) (by simp)).trans (show _ = some (.slice Aj js.length cj) from by go_simp)); (have hq3 : ∀ o1 o2 o3, (((w1.alloc o1).alloc o2).alloc o3).cell? ⟨w.heap.size, 1, none⟩ = some (.slice Aj js.length cj) := fun o1 o2 o3 => ((((But.refl No w1).alloc o1).alloc o2).alloc o3).cell_some hq1 (fun c => c)); (have hsz : w.heap.size < w1.heap.size := by (have := hb1.size; simp at this; omega)); (have hsz' : ¬ w1.heap.size = w.heap.size := by omega); (have hsz'' : ¬ w1.heap.size + 1 = w.heap.size := by omega); (have hsz3 : ¬ w1.heap.size + 1 + 1 = w.heap.size := by omega); (have HB1 := Lib.hid (((But.refl No w).alloc _).trans (But.of_below (S := No) hb1))); clear hb1) | (go_at_call 53; refine (looks0 _).mono ?_; rintro e w2 ⟨rfl, rfl⟩))
  generalize hr : w1.heap.size + 1 + 1 = r
  generalize hg : w1.heap.size + 1 = g
  generalize hb : w1.heap.size = b
  have hst : ∀ c2 c3 c4 c5 c6 c7 c8 c9 c10 c11 : Value, LookAt w g b r At Aj ts.length ct js.length cj [] (((w1.alloc (.map #[] 0)).alloc (.cells #[.slice At ts.length ct, .slice Aj js.length cj, c2, c3, c4, c5, c6, c7, c8, c9, c10, c11, .map (some b)] 94)).alloc (.cells fourF 97)) := fun c2 c3 c4 c5 c6 c7 c8 c9 c10 c11 => by
    subst hr hg hb
    refine ⟨(((HB1.out.alloc _).alloc _).alloc _), ⟨c2, c3, c4, c5, c6, c7, c8, c9, c10, c11, ?_⟩, ?_, ?_⟩
    · refine blkold (w := (w1.alloc (.map #[] 0)).alloc _) ?_ _
      have h := heap_alloc_new (w1.alloc (.map #[] 0)) (.cells #[.slice At ts.length ct, .slice Aj js.length cj, c2, c3, c4, c5, c6, c7, c8, c9, c10, c11, .map (some w1.heap.size)] 94)
      simpa using h
    · have h := heap_alloc_new ((w1.alloc (.map #[] 0)).alloc (.cells #[.slice At ts.length ct, .slice Aj js.length cj, c2, c3, c4, c5, c6, c7, c8, c9, c10, c11, .map (some w1.heap.size)] 94)) (.cells fourF 97)
      simpa using h
    · obtain ⟨D, h1, h2, h3⟩ := NamesM.made w1
      exact ⟨D, (h1.alloc _).alloc _, h2, h3⟩
  have HST := Lib.hid hst
  have hgr : ¬ g = r := by omega
  have hgb : ¬ g = b := by omega
  have hbr : ¬ b = r := by omega
  have hwg : ¬ g < w.heap.size := by omega
  have hwr : ¬ r < w.heap.size := by omega
  have hwb : ¬ b < w.heap.size := by omega
  clear hst hq0 hq1 hq3 hmm hr hg hb hsz hsz' hsz'' hsz3 HB1
  go_loopg [25] js.length (fun gk v wr => PartsAt w g b r At Aj ts ct cj js gk v wr)
  case atStart => exact ⟨0, rfl, Nat.zero_le _, rfl, [], rfl, rfl, HST.out _ _ _ _ _ _ _ _ _ _⟩
  case round =>
    obtain ⟨i, hgk, hi, rfl, seen, hsl, hjc, hL⟩ := hrel
    have HGK := Lib.hid hgk
    have HJC := Lib.hid hjc
    have HSL := Lib.hid hsl
    have HL := Lib.hid hL
    clear hgk hjc hL hsl
    by_cases hlt : i < js.length
    case neg =>
      obtain rfl : i = js.length := by omega
      have hlt' : ¬ (js.length : Int) < (js.length : Int) := by omega
      have E := Lib.hid (show R = 0 from by rw [E0.out, ← HJC.out, List.drop_length]; rfl)
      go_wp2_with fail
      go_ret2
      exact ⟨⟨0, by rw [E.out]; rfl⟩, HL.out.but.belowNo⟩
    obtain ⟨ad, hA, Ar, Av, Ap, cr, cv, cp, hJi⟩ := HJ.out i hlt
    cases hA
    have hlt' : (i : Int) < (js.length : Int) := by omega
    have dl : decide ((i : Int) < (js.length : Int)) = true := decide_eq_true hlt'
    have hF := HF.out _ (List.getElem_mem hlt)
    have hdrop : js.drop i = js[i] :: js.drop (i + 1) := (List.getElem_cons_drop hlt).symm
    obtain ⟨j, hj⟩ : ∃ j, js[i] = j := ⟨_, rfl⟩
    rw [hj] at hJi hF hdrop
    have HD := Lib.hid hdrop
    clear hj hdrop
    have hB := HL.out.but
    have k0 := hB.cell_some hJi.c0 (fun c => c)
    have k1 := hB.cell_some hJi.c1 (fun c => c)
    have k2 := hB.cell_some hJi.c2 (fun c => c)
    have k3 := hB.cell_some hJi.c3 (fun c => c)
    have k4 := hB.cell_some hJi.c4 (fun c => c)
    have k5 := hB.cell_some hJi.c5 (fun c => c)
    have k6 := hB.cell_some hJi.c6 (fun c => c)
    have k7 := hB.cell_some hJi.c7 (fun c => c)
    have k8 := hB.cell_some hJi.c8 (fun c => c)
    have HJI := Lib.hid hJi
    have HFI := Lib.hid hF
    clear hB hJi hF
    go_wp2_with fail
    obtain ⟨c2, c3, c4, c5, c6, c7, c8, c9, c10, c11, hgc⟩ := HL.out.cells
    have hgl : g < wr.heap.size := lt_of_block hgc
    have hgh : ¬ wr.heap.size = g := by omega
    have hgh' : ¬ g = wr.heap.size := by omega
    have hfz : ∀ i, wr.frozen? ⟨g, i, none⟩ = false := blkfree hgc
    have q2 : wr.cell? ⟨g, 2, none⟩ = some c2 := blkcell hgc 2 (by simp)
    have q3 : wr.cell? ⟨g, 3, none⟩ = some c3 := blkcell hgc 3 (by simp)
    have q4 : wr.cell? ⟨g, 4, none⟩ = some c4 := blkcell hgc 4 (by simp)
    have q5 : wr.cell? ⟨g, 5, none⟩ = some c5 := blkcell hgc 5 (by simp)
    have q6 : wr.cell? ⟨g, 6, none⟩ = some c6 := blkcell hgc 6 (by simp)
    have q7 : wr.cell? ⟨g, 7, none⟩ = some c7 := blkcell hgc 7 (by simp)
    have q8 : wr.cell? ⟨g, 8, none⟩ = some c8 := blkcell hgc 8 (by simp)
    have q9 : wr.cell? ⟨g, 9, none⟩ = some c9 := blkcell hgc 9 (by simp)
    have q10 : wr.cell? ⟨g, 10, none⟩ = some c10 := blkcell hgc 10 (by simp)
    have q11 : wr.cell? ⟨g, 11, none⟩ = some c11 := blkcell hgc 11 (by simp)
    have HGC := Lib.hid hgc
    clear hgc
    refine wp_region_held_drew (S := fun w' => w'.cell? ⟨wr.heap.size, 0, none⟩ = some (.int .i64 j.one.name) ∧ w'.cell? ⟨wr.heap.size, 1, none⟩ = some (.int .i64 j.one.run) ∧ w'.cell? ⟨wr.heap.size, 2, none⟩ = some (.int .i64 j.one.stage) ∧ w'.cell? ⟨wr.heap.size, 3, none⟩ = some (.int .i64 j.one.when_) ∧ w'.cell? ⟨wr.heap.size, 4, none⟩ = some (.bool j.allow) ∧ w'.cell? ⟨wr.heap.size, 5, none⟩ = some (.int .i64 j.one.weight) ∧ w'.cell? ⟨wr.heap.size, 6, none⟩ = some (.slice Ar j.rules.length cr) ∧ w'.cell? ⟨wr.heap.size, 7, none⟩ = some (.slice Av j.vars.length cv) ∧ w'.cell? ⟨wr.heap.size, 8, none⟩ = some (.slice Ap j.preds.length cp)) (by kernel_rfl) ?hs (fun hS => ?_)
    case hs => exact ⟨by go_simp, by go_simp, by go_simp, by go_simp, by go_simp, by go_simp, by go_simp, by go_simp, by go_simp⟩
    refine wpAnyH_take (i := 0) rfl (by kernel_rfl) (by kernel_rfl) (by kernel_rfl) (fun _ _ _ h => h) (Or.inl ⟨by kernel_rfl, fun w ⟨e0, e1, e2, e3, e4, e5, e6, e7, e8⟩ => by go_simp <;> (with_reducible rfl)⟩) hS ?_
    try simp only [Act.put, List.setIfInBounds_toArray, List.set_cons_zero, List.set_cons_succ, List.getElem_toArray, List.getElem_cons_zero, List.getElem_cons_succ]
    refine wpAnyH_take (i := 1) rfl (by kernel_rfl) (by kernel_rfl) (by kernel_rfl) (fun _ _ _ h => h) (Or.inl ⟨by kernel_rfl, fun w ⟨e0, e1, e2, e3, e4, e5, e6, e7, e8⟩ => by go_simp <;> (with_reducible rfl)⟩) hS ?_
    try simp only [Act.put, List.setIfInBounds_toArray, List.set_cons_zero, List.set_cons_succ, List.getElem_toArray, List.getElem_cons_zero, List.getElem_cons_succ]
    refine wpAnyH_take (i := 2) rfl (by kernel_rfl) (by kernel_rfl) (by kernel_rfl) (fun _ _ _ h => h) (Or.inl ⟨by kernel_rfl, fun w ⟨e0, e1, e2, e3, e4, e5, e6, e7, e8⟩ => by go_simp <;> (with_reducible rfl)⟩) hS ?_
    try simp only [Act.put, List.setIfInBounds_toArray, List.set_cons_zero, List.set_cons_succ, List.getElem_toArray, List.getElem_cons_zero, List.getElem_cons_succ]
    refine wpAnyH_take (i := 3) rfl (by kernel_rfl) (by kernel_rfl) (by kernel_rfl) (fun _ _ _ h => h) (Or.inl ⟨by kernel_rfl, fun w ⟨e0, e1, e2, e3, e4, e5, e6, e7, e8⟩ => by go_simp <;> (with_reducible rfl)⟩) hS ?_
    try simp only [Act.put, List.setIfInBounds_toArray, List.set_cons_zero, List.set_cons_succ, List.getElem_toArray, List.getElem_cons_zero, List.getElem_cons_succ]
    refine wpAnyH_take (i := 4) rfl (by kernel_rfl) (by kernel_rfl) (by kernel_rfl) (fun _ _ _ h => h) (Or.inl ⟨by kernel_rfl, fun w ⟨e0, e1, e2, e3, e4, e5, e6, e7, e8⟩ => by go_simp <;> (with_reducible rfl)⟩) hS ?_
    try simp only [Act.put, List.setIfInBounds_toArray, List.set_cons_zero, List.set_cons_succ, List.getElem_toArray, List.getElem_cons_zero, List.getElem_cons_succ]
    refine wpAnyH_take (i := 5) rfl (by kernel_rfl) (by kernel_rfl) (by kernel_rfl) (fun _ _ _ h => h) (Or.inl ⟨by kernel_rfl, fun w ⟨e0, e1, e2, e3, e4, e5, e6, e7, e8⟩ => by go_simp <;> (with_reducible rfl)⟩) hS ?_
    try simp only [Act.put, List.setIfInBounds_toArray, List.set_cons_zero, List.set_cons_succ, List.getElem_toArray, List.getElem_cons_zero, List.getElem_cons_succ]
    refine wpAnyH_ready (rs := [6]) (by kernel_rfl) (by simp) (AllReadyH.cons rfl (fun K hK => ?_) AllReadyH.nil)
    rw [if_pos (by kernel_rfl)]
    go_simp
    refine hK.out _ _ ⟨by go_simp, by go_simp, by go_simp, by go_simp, by go_simp, by go_simp, by go_simp, by go_simp, by go_simp⟩ (fun hS => ?_)
    try simp only [Act.put, List.setIfInBounds_toArray, List.set_cons_zero, List.set_cons_succ, List.getElem_toArray, List.getElem_cons_zero, List.getElem_cons_succ]
    refine wpAnyH_take (i := 7) rfl (by kernel_rfl) (by kernel_rfl) (by kernel_rfl) (fun _ _ _ h => h) (Or.inl ⟨by kernel_rfl, fun w ⟨e0, e1, e2, e3, e4, e5, e6, e7, e8⟩ => by go_simp <;> (with_reducible rfl)⟩) hS ?_
    try simp only [Act.put, List.setIfInBounds_toArray, List.set_cons_zero, List.set_cons_succ, List.getElem_toArray, List.getElem_cons_zero, List.getElem_cons_succ]
    refine wpAnyH_take (i := 8) rfl (by kernel_rfl) (by kernel_rfl) (by kernel_rfl) (fun _ _ _ h => h) (Or.inl ⟨by kernel_rfl, fun w ⟨e0, e1, e2, e3, e4, e5, e6, e7, e8⟩ => by go_simp <;> (with_reducible rfl)⟩) hS ?_
    try simp only [Act.put, List.setIfInBounds_toArray, List.set_cons_zero, List.set_cons_succ, List.getElem_toArray, List.getElem_cons_zero, List.getElem_cons_succ]
    refine wpAnyH_ready (rs := [9]) (by kernel_rfl) (by simp) (AllReadyH.cons rfl (fun K2 hK2 => ?_) AllReadyH.nil)
    rw [if_pos (by kernel_rfl)]
    go_simp
    refine hK2.out _ _ ⟨by go_simp, by go_simp, by go_simp, by go_simp, by go_simp, by go_simp, by go_simp, by go_simp, by go_simp⟩ (fun hS => ?_)
    try simp only [Act.put, List.setIfInBounds_toArray, List.set_cons_zero, List.set_cons_succ, List.getElem_toArray, List.getElem_cons_zero, List.getElem_cons_succ]
    refine wpAnyH_done (by kernel_rfl) ?_ _
    clear hS
    have hli := fun o => HL.out.laid hwg hgr hgb (i : Int) j Ar Av Ap cr cv cp o
    clear q2 q3 q4 q5 q6 q7 q8 q9 q10 q11 hfz k0 k1 k2 k3 k4 k5 k6 k7 k8 HGC
    generalize hW : World.drew (World.alloc _ _) = W
    have HLI := Lib.hid (show LookIn w g b r (jobCells At (some ad) ts.length ct js.length cj b (i : Int) j Ar Av Ap cr cv cp) seen W from hW ▸ hli _)
    clear hW hli HL hgl hgh hgh'
    have HBAD := Lib.hid (show ∀ c, jobC ts seen i j = c → c ≠ 0 → R = c from fun c h hc => by
      rw [E0.out, ← HJC.out, HD.out]
      unfold jobsC
      rw [if_neg (by rw [h]; exact hc), h])
    have HGOOD := Lib.hid (show jobC ts seen i j = 0 → jobsC ts (j.one.name :: seen) (i + 1) (js.drop (i + 1)) = jobsC ts [] 0 js from fun h => by
      rw [← HJC.out, HD.out]
      exact (if_pos h).symm)
    have hseen : seen.length ≤ 256 := by have := HSL.out; omega
    have HSN := Lib.hid hseen
    clear hseen
    go_wp2_with fail
    go_loopg [40] 4 (fun gk v wr => InAt w g b r (jobCells At (some ad) ts.length ct js.length cj b (i : Int) j Ar Av Ap cr cv cp) ts i j seen gk v wr)
    case atStart => exact ⟨0, rfl, Nat.zero_le _, rfl, HLI.out, fun h => absurd h (by decide), fun h => absurd h (by decide), fun h => absurd h (by decide), fun h => absurd h (by decide)⟩
    case round =>
      obtain ⟨k, hgk2, hk4, rfl, hli2, m1, m2, m3, m4⟩ := hrel
      have HGK2 := Lib.hid hgk2
      have HL2 := Lib.hid hli2
      have M1 := Lib.hid m1
      have M2 := Lib.hid m2
      have M3 := Lib.hid m3
      have M4 := Lib.hid m4
      clear hgk2 hli2 m1 m2 m3 m4 HLI
      have hk : k = 0 ∨ k = 1 ∨ k = 2 ∨ k = 3 ∨ k = 4 := by omega
      rcases hk with rfl | rfl | rfl | rfl | rfl
      · have hr0 : wr.cell? ⟨r, 0, none⟩ = some (.func (.func 64) #[] #[]) := blkcell HL2.out.row 0 (by simp [fourF])
        obtain ⟨t, ht⟩ : ∃ t, fieldsB ts.length seen j.one = t := ⟨_, rfl⟩
        have HTT := Lib.hid ht
        clear ht
        cases t with
        | false =>
          have E := Lib.hid (HBAD.out 171 (by unfold jobC; rw [HTT.out]; rfl) (by decide))
          go_wp2_with (first | (go_at_call 64; refine (look1 (show LookIn w g b r _ seen wr from HL2.out) hwb hgb hbr HSN.out HFI.out 171 (by rw [HTT.out]; rfl)).mono ?_; rintro e w3 ⟨rfl, hl3⟩; (have HL3 := Lib.hid hl3); clear hl3))
          go_ret2
          exact ⟨⟨i, by rw [E.out]; rfl⟩, HL3.out.but.belowNo⟩
        | true =>
          go_wp2_with (first | (go_at_call 64; refine (look1 (show LookIn w g b r _ seen wr from HL2.out) hwb hgb hbr HSN.out HFI.out 0 (by rw [HTT.out]; rfl)).mono ?_; rintro e w3 ⟨rfl, hl3⟩; (have HL3 := Lib.hid hl3); clear hl3))
          go_roundg 3
          case measure => rw [HGK2.out]; decide
          case rel => exact ⟨1, rfl, by decide, by go_num, HL3.out, fun _ => HTT.out, fun h => absurd h (by decide), fun h => absurd h (by decide), fun h => absurd h (by decide)⟩
      · have hr1 : wr.cell? ⟨r, 1, none⟩ = some (.func (.func 65) #[] #[]) := blkcell HL2.out.row 1 (by simp [fourF])
        obtain ⟨t, ht⟩ : ∃ t, rulesB ts j.rules = t := ⟨_, rfl⟩
        have HTT := Lib.hid ht
        clear ht
        cases t with
        | false =>
          have E := Lib.hid (HBAD.out 172 (by unfold jobC; rw [if_pos (M1.out (by decide))]; rw [HTT.out]; rfl) (by decide))
          go_wp2_with (first | (go_at_call 65; refine (look2 HL2.out HT.out HJI.out.rules HS.out htl HFI.out 172 (by rw [HTT.out]; rfl)).mono ?_; rintro e w3 ⟨rfl, hl3⟩; (have HL3 := Lib.hid hl3); clear hl3))
          go_ret2
          exact ⟨⟨i, by rw [E.out]; rfl⟩, HL3.out.but.belowNo⟩
        | true =>
          go_wp2_with (first | (go_at_call 65; refine (look2 HL2.out HT.out HJI.out.rules HS.out htl HFI.out 0 (by rw [HTT.out]; rfl)).mono ?_; rintro e w3 ⟨rfl, hl3⟩; (have HL3 := Lib.hid hl3); clear hl3))
          go_roundg 2
          case measure => rw [HGK2.out]; decide
          case rel => exact ⟨2, rfl, by decide, by go_num, HL3.out, fun _ => M1.out (by decide), fun _ => HTT.out, fun h => absurd h (by decide), fun h => absurd h (by decide)⟩
      · have hr2 : wr.cell? ⟨r, 2, none⟩ = some (.func (.func 66) #[] #[]) := blkcell HL2.out.row 2 (by simp [fourF])
        obtain ⟨t, ht⟩ : ∃ t, varsB ts j.vars = t := ⟨_, rfl⟩
        have HTT := Lib.hid ht
        clear ht
        cases t with
        | false =>
          have E := Lib.hid (HBAD.out 173 (by unfold jobC; rw [if_pos (M1.out (by decide))]; rw [if_pos (M2.out (by decide))]; rw [HTT.out]; rfl) (by decide))
          go_wp2_with (first | (go_at_call 66; refine (look3 HL2.out HT.out HJI.out.vars HS.out htl HFI.out 173 (by rw [HTT.out]; rfl)).mono ?_; rintro e w3 ⟨rfl, hl3⟩; (have HL3 := Lib.hid hl3); clear hl3))
          go_ret2
          exact ⟨⟨i, by rw [E.out]; rfl⟩, HL3.out.but.belowNo⟩
        | true =>
          go_wp2_with (first | (go_at_call 66; refine (look3 HL2.out HT.out HJI.out.vars HS.out htl HFI.out 0 (by rw [HTT.out]; rfl)).mono ?_; rintro e w3 ⟨rfl, hl3⟩; (have HL3 := Lib.hid hl3); clear hl3))
          go_roundg 1
          case measure => rw [HGK2.out]; decide
          case rel => exact ⟨3, rfl, by decide, by go_num, HL3.out, fun _ => M1.out (by decide), fun _ => M2.out (by decide), fun _ => HTT.out, fun h => absurd h (by decide)⟩
      · have hr3 : wr.cell? ⟨r, 3, none⟩ = some (.func (.func 67) #[] #[]) := blkcell HL2.out.row 3 (by simp [fourF])
        obtain ⟨t, ht⟩ : ∃ t, predsB i j.preds = t := ⟨_, rfl⟩
        have HTT := Lib.hid ht
        clear ht
        cases t with
        | false =>
          have E := Lib.hid (HBAD.out 174 (by unfold jobC; rw [if_pos (M1.out (by decide))]; rw [if_pos (M2.out (by decide))]; rw [if_pos (M3.out (by decide))]; rw [HTT.out]; rfl) (by decide))
          go_wp2_with (first | (go_at_call 67; refine (look4 HL2.out HJI.out.preds HFI.out 174 (by rw [HTT.out]; rfl)).mono ?_; rintro e w3 ⟨rfl, hl3⟩; (have HL3 := Lib.hid hl3); clear hl3))
          go_ret2
          exact ⟨⟨i, by rw [E.out]; rfl⟩, HL3.out.but.belowNo⟩
        | true =>
          go_wp2_with (first | (go_at_call 67; refine (look4 HL2.out HJI.out.preds HFI.out 0 (by rw [HTT.out]; rfl)).mono ?_; rintro e w3 ⟨rfl, hl3⟩; (have HL3 := Lib.hid hl3); clear hl3))
          go_roundg 0
          case measure => rw [HGK2.out]; decide
          case rel => exact ⟨4, rfl, by decide, by go_num, HL3.out, fun _ => M1.out (by decide), fun _ => M2.out (by decide), fun _ => M3.out (by decide), fun _ => HTT.out⟩
      · have hz := HGOOD.out (by unfold jobC; rw [if_pos (M1.out (by decide)), if_pos (M2.out (by decide)), if_pos (M3.out (by decide)), if_pos (M4.out (by decide))])
        have HZ := Lib.hid hz
        clear hz
        go_wp2_with fail
        go_roundg (js.length - (i + 1))
        case measure => rw [HGK.out]; omega
        case rel => exact ⟨i + 1, rfl, by omega, by go_num, j.one.name :: seen, by rw [List.length_cons, HSL.out], HZ.out, HL2.out.at⟩
end Go.Proofs.Ytoaopjbgaehpfaa.G
end
section
/- plan.long: how many bytes numbers have. -/
namespace Go.Proofs.Ytoaopjbgaehpfaa.G
open Go.RowKit
attribute [local simp, local go_sem] alloc_drewN setCell_drewN
set_option linter.unusedVariables false
set_option linter.unusedSimpArgs false
set_option maxRecDepth 100000
/-- How many bytes a number has, as plan counts them. -/
def numL (n : Int) : Int := if n ≤ 127 ∨ 268435456 ≤ n then 1 else if n < 16384 then 2 else if n < 2097152 then 3 else 4
def sumL (ns : List Int) : Int := (ns.map numL).sum
theorem numL_small {n : Int} (h : n ≤ 127 ∨ 268435456 ≤ n) : numL n = 1 := if_pos h
theorem numL_bound (n : Int) : 1 ≤ numL n ∧ numL n ≤ 4 := by
  unfold numL
  split
  · omega
  · split
    · omega
    · split <;> omega
theorem numL_step {n : Int} (h1 : 127 < n) (h2 : n < 268435456) : numL n = numL (n / 128) + 1 := by
  unfold numL
  by_cases a : n < 16384
  · rw [if_neg (by omega), if_pos a, if_pos (by omega)]; rfl
  · by_cases b : n < 2097152
    · rw [if_neg (by omega), if_neg a, if_pos b, if_neg (by omega), if_pos (by omega)]; rfl
    · rw [if_neg (by omega), if_neg a, if_neg b, if_neg (by omega), if_neg (by omega), if_pos (by omega)]; rfl
theorem sumL_take {ns : List Int} {i : Nat} (h : i < ns.length) : sumL (ns.take (i + 1)) = sumL (ns.take i) + numL ns[i] := by
  unfold sumL
  rw [List.take_succ_eq_append_getElem h, List.map_append, List.sum_append]
  simp
theorem sumL_bound (ns : List Int) : 0 ≤ sumL ns ∧ sumL ns ≤ 4 * (ns.length : Int) := by
  unfold sumL
  induction ns with
  | nil => simp
  | cons a l ih =>
    rw [List.map_cons, List.sum_cons, List.length_cons]
    have := numL_bound a
    omega
def LongAt (w : World) (ns : List Int) (gk : Nat) (v3 v8 : Value) (wr : World) : Prop := ∃ i : Nat, gk = ns.length - i ∧ i ≤ ns.length ∧ v8 = .int .i64 (i : Int) ∧ wr = w ∧ v3 = .int .i64 (sumL (ns.take i))
def NumAt (w : World) (T : Int) (gk : Nat) (v3 v5 : Value) (wr : World) : Prop := ∃ n s : Int, gk = n.toNat ∧ v3 = .int .i64 s ∧ v5 = .int .i64 n ∧ wr = w ∧ s + numL n = T + 1 ∧ 0 ≤ s ∧ n ≤ 9223372036854775807 ∧ -9223372036854775808 ≤ n
set_option maxHeartbeats 4000000 in
theorem long0 (A : Option Addr) (c : Nat) (ns : List Int) (w : World) (hT : IntsIn w A ns) (hl : ns.length ≤ 1152921504606846975) (hn : ∀ n ∈ ns, n ≤ 9223372036854775807 ∧ -9223372036854775808 ≤ n) :
    Calls Try.prog 54 #[.slice A ns.length c] w fun e w' => e = .returned (.int .i64 (sumL ns)) ∧ w' = w := by
  have HT := Lib.hid hT
  have HN := Lib.hid hn
  clear hT hn
  go_enter Try.func54, Try.ntmps54
  go_wp2_with fail
  go_loopg [3, 8] ns.length (fun gk v3 v8 wr => LongAt w ns gk v3 v8 wr)
  case atStart => exact ⟨0, rfl, Nat.zero_le _, rfl, rfl, rfl⟩
  case round =>
    obtain ⟨i, hgk, hi, rfl, rfl, rfl⟩ := hrel
    have HGK := Lib.hid hgk
    clear hgk
    have hsb := sumL_bound (ns.take i)
    rw [List.length_take_of_le hi] at hsb
    obtain ⟨s0, hs0⟩ : ∃ s, sumL (ns.take i) = s := ⟨_, rfl⟩
    rw [hs0] at hsb ⊢
    by_cases hlt : i < ns.length
    · obtain ⟨ad, hA, k1⟩ := HT.out i hlt
      cases hA
      have hn := HN.out _ (List.getElem_mem hlt)
      have HTK := Lib.hid (sumL_take hlt)
      obtain ⟨n, hnn⟩ : ∃ n, ns[i] = n := ⟨_, rfl⟩
      rw [hnn] at k1 hn
      have HTK2 := Lib.hid (show sumL (ns.take (i + 1)) = s0 + numL n from by rw [HTK.out, hs0, hnn])
      have hlt' : (i : Int) < (ns.length : Int) := by omega
      have dl : decide ((i : Int) < (ns.length : Int)) = true := decide_eq_true hlt'
      clear hnn hs0 HTK
      go_wp2_with fail
      go_loopg [3, 5] n.toNat (fun gk v3 v5 w' => NumAt wr (s0 + numL n) gk v3 v5 w')
      case atStart => exact ⟨n, s0 + 1, rfl, rfl, rfl, rfl, by omega, by omega, hn.1, hn.2⟩
      case round =>
        obtain ⟨m, s, hgk2, rfl, rfl, rfl, hT, hs, hm1, hm2⟩ := hrel
        have HGK2 := Lib.hid hgk2
        have HTT := Lib.hid hT
        have hnb := numL_bound m
        have hnb2 := numL_bound n
        have hsu : s ≤ 9223372036854775000 := by omega
        clear hgk2 hT hnb hnb2
        by_cases c1 : 127 < m
        · have d1 : decide (127 < m) = true := decide_eq_true c1
          by_cases c2 : m < 268435456
          · have d2 : decide (m < 268435456) = true := decide_eq_true c2
            have E := Lib.hid (numL_step c1 c2)
            go_wp2_with fail
            go_roundg (m / 128).toNat
            case measure => rw [HGK2.out]; omega
            case rel => exact ⟨m / 128, s + 1, rfl, rfl, rfl, rfl, by have := HTT.out; have := E.out; omega, by omega, by omega, by omega⟩
          · have d2 : decide (m < 268435456) = false := decide_eq_false c2
            have E := Lib.hid (show s = s0 + numL n from by have := HTT.out; rw [numL_small (by omega)] at this; omega)
            go_wp2_with fail
            go_roundg (ns.length - (i + 1))
            case measure => rw [HGK.out]; omega
            case rel => exact ⟨i + 1, rfl, by omega, by go_num, rfl, by rw [HTK2.out, E.out]⟩
        · have d1 : decide (127 < m) = false := decide_eq_false c1
          have E := Lib.hid (show s = s0 + numL n from by have := HTT.out; rw [numL_small (by omega)] at this; omega)
          go_wp2_with fail
          go_roundg (ns.length - (i + 1))
          case measure => rw [HGK.out]; omega
          case rel => exact ⟨i + 1, rfl, by omega, by go_num, rfl, by rw [HTK2.out, E.out]⟩
    · obtain rfl : i = ns.length := by omega
      have hlt' : ¬ (ns.length : Int) < (ns.length : Int) := by omega
      rw [List.take_length] at hs0
      have E := Lib.hid hs0
      clear hs0
      go_wp2_with fail
      go_ret
      exact ⟨by rw [E.out]; rfl, rfl⟩
end Go.Proofs.Ytoaopjbgaehpfaa.G
end
section
/- plan.size: how long a plan is. -/
namespace Go.Proofs.Ytoaopjbgaehpfaa.G
open Go.RowKit
attribute [local simp, local go_sem] alloc_drewN setCell_drewN
set_option linter.unusedVariables false
set_option linter.unusedSimpArgs false
set_option maxRecDepth 100000
def textSz (s : ByteArray) : Int := sumL [(s.size : Int)] + (s.size : Int)
def varSz (v : Int × Int) : Int := sumL [v.1, v.2]
def stepSz (x : Int × Int) : Int := if saysB x.1 = true then sumL [x.2] else 0
def ruleSz (r : List (Int × Int) × Int) : Int := sumL [r.2, (r.1.length : Int)] + (r.1.length : Int) + (r.1.map stepSz).sum
def jobSz (j : JobP) : Int := 1 + sumL [j.one.name, j.one.run, j.one.stage, j.one.when_, j.one.weight, (j.rules.length : Int), (j.vars.length : Int), (j.preds.length : Int)] + sumL j.preds + (j.vars.map varSz).sum + (j.rules.map ruleSz).sum
def sizeP (ts : List ByteArray) (js : List JobP) : Int := 5 + sumL [(ts.length : Int), (js.length : Int)] + (ts.map textSz).sum + (js.map jobSz).sum
def In64 (n : Int) : Prop := n ≤ 9223372036854775807 ∧ -9223372036854775808 ≤ n
structure JobSmall (j : JobP) : Prop where
  rules : j.rules.length ≤ 16
  vars : j.vars.length ≤ 256
  preds : j.preds.length ≤ 256
  codes : ∀ r ∈ j.rules, r.1.length ≤ 1024
  name : In64 j.one.name
  run : In64 j.one.run
  stage : In64 j.one.stage
  when_ : In64 j.one.when_
  weight : In64 j.one.weight
  whens : ∀ r ∈ j.rules, In64 r.2
  steps : ∀ r ∈ j.rules, ∀ x ∈ r.1, In64 x.2
  names : ∀ v ∈ j.vars, In64 v.1 ∧ In64 v.2
  froms : ∀ p ∈ j.preds, In64 p
structure SizeFits (ts : List ByteArray) (js : List JobP) : Prop where
  texts : ts.length ≤ 65536
  sizes : ∀ s ∈ ts, s.size ≤ 4096
  jobs : js.length ≤ 256
  each : ∀ j ∈ js, JobSmall j
theorem sum_take_succ {fs : List Int} {i : Nat} (h : i < fs.length) : (fs.take (i + 1)).sum = (fs.take i).sum + fs[i] := by
  rw [List.take_succ_eq_append_getElem h, List.sum_append]
  simp
theorem sum_bnd {B : Int} (hB : 0 ≤ B) : ∀ {fs : List Int}, (∀ x ∈ fs, 0 ≤ x ∧ x ≤ B) → 0 ≤ fs.sum ∧ fs.sum ≤ B * (fs.length : Int)
  | [], _ => by simp
  | a :: l, h => by
    have h1 := h a (by simp)
    have h2 := sum_bnd hB (fun x hx => h x (List.mem_cons_of_mem _ hx))
    rw [List.sum_cons, List.length_cons]
    have : B * ((l.length + 1 : Nat) : Int) = B * (l.length : Int) + B := by push_cast; rw [Int.mul_add, Int.mul_one]
    omega
theorem sum_bnd_take {B : Int} (hB : 0 ≤ B) {fs : List Int} (h : ∀ x ∈ fs, 0 ≤ x ∧ x ≤ B) (i : Nat) : 0 ≤ (fs.take i).sum ∧ (fs.take i).sum ≤ B * (fs.length : Int) := by
  have h1 := sum_bnd hB (fs := fs.take i) (fun x hx => h x (List.mem_of_mem_take hx))
  refine ⟨h1.1, Int.le_trans h1.2 (Int.mul_le_mul_of_nonneg_left ?_ hB)⟩
  rw [List.length_take]
  omega
theorem textSz_bnd {s : ByteArray} (h : s.size ≤ 4096) : 0 ≤ textSz s ∧ textSz s ≤ 4100 := by
  have := sumL_bound [(s.size : Int)]
  unfold textSz
  simp only [List.length_cons, List.length_nil] at this
  omega
theorem varSz_bnd (v : Int × Int) : 0 ≤ varSz v ∧ varSz v ≤ 8 := by
  have := sumL_bound [v.1, v.2]
  simp only [List.length_cons, List.length_nil] at this
  unfold varSz
  omega
theorem stepSz_bnd (x : Int × Int) : 0 ≤ stepSz x ∧ stepSz x ≤ 4 := by
  have := sumL_bound [x.2]
  simp only [List.length_cons, List.length_nil] at this
  unfold stepSz
  split <;> omega
theorem stepsSz_bnd {r : List (Int × Int)} (h : r.length ≤ 1024) (i : Nat) : 0 ≤ ((r.map stepSz).take i).sum ∧ ((r.map stepSz).take i).sum ≤ 4096 := by
  have := sum_bnd_take (B := 4) (by decide) (fs := r.map stepSz) (fun x hx => by obtain ⟨y, _, rfl⟩ := List.mem_map.1 hx; exact stepSz_bnd y) i
  rw [List.length_map] at this
  omega
theorem ruleSz_bnd {r : List (Int × Int) × Int} (h : r.1.length ≤ 1024) : 0 ≤ ruleSz r ∧ ruleSz r ≤ 6000 := by
  have h1 := sumL_bound [r.2, (r.1.length : Int)]
  have h2 := stepsSz_bnd h r.1.length
  simp only [List.length_cons, List.length_nil] at h1
  rw [List.take_of_length_le (by rw [List.length_map]; exact Nat.le_refl _)] at h2
  unfold ruleSz
  omega
theorem rulesSz_bnd {rs : List (List (Int × Int) × Int)} (h : rs.length ≤ 16) (hc : ∀ r ∈ rs, r.1.length ≤ 1024) (i : Nat) : 0 ≤ ((rs.map ruleSz).take i).sum ∧ ((rs.map ruleSz).take i).sum ≤ 96000 := by
  have := sum_bnd_take (B := 6000) (by decide) (fs := rs.map ruleSz) (fun x hx => by obtain ⟨y, hy, rfl⟩ := List.mem_map.1 hx; exact ruleSz_bnd (hc y hy)) i
  rw [List.length_map] at this
  omega
theorem varsSz_bnd {vs : List (Int × Int)} (h : vs.length ≤ 256) (i : Nat) : 0 ≤ ((vs.map varSz).take i).sum ∧ ((vs.map varSz).take i).sum ≤ 2048 := by
  have := sum_bnd_take (B := 8) (by decide) (fs := vs.map varSz) (fun x hx => by obtain ⟨y, _, rfl⟩ := List.mem_map.1 hx; exact varSz_bnd y) i
  rw [List.length_map] at this
  omega
theorem jobSz_bnd {j : JobP} (h : JobSmall j) : 0 ≤ jobSz j ∧ jobSz j ≤ 200000 := by
  have h1 := sumL_bound [j.one.name, j.one.run, j.one.stage, j.one.when_, j.one.weight, (j.rules.length : Int), (j.vars.length : Int), (j.preds.length : Int)]
  have h2 := sumL_bound j.preds
  have h3 := varsSz_bnd h.vars j.vars.length
  have h4 := rulesSz_bnd h.rules h.codes j.rules.length
  rw [List.take_of_length_le (by rw [List.length_map]; exact Nat.le_refl _)] at h3 h4
  simp only [List.length_cons, List.length_nil] at h1
  have := h.preds
  unfold jobSz
  omega
theorem textsSz_bnd {ts : List ByteArray} (h : ts.length ≤ 65536) (hs : ∀ s ∈ ts, s.size ≤ 4096) (i : Nat) : 0 ≤ ((ts.map textSz).take i).sum ∧ ((ts.map textSz).take i).sum ≤ 268697600 := by
  have := sum_bnd_take (B := 4100) (by decide) (fs := ts.map textSz) (fun x hx => by obtain ⟨y, hy, rfl⟩ := List.mem_map.1 hx; exact textSz_bnd (hs y hy)) i
  rw [List.length_map] at this
  omega
theorem jobsSz_bnd {js : List JobP} (h : js.length ≤ 256) (hs : ∀ j ∈ js, JobSmall j) (i : Nat) : 0 ≤ ((js.map jobSz).take i).sum ∧ ((js.map jobSz).take i).sum ≤ 51200000 := by
  have := sum_bnd_take (B := 200000) (by decide) (fs := js.map jobSz) (fun x hx => by obtain ⟨y, hy, rfl⟩ := List.mem_map.1 hx; exact jobSz_bnd (hs y hy)) i
  rw [List.length_map] at this
  omega
/-- A row of numbers just made. -/
theorem intsIn_new (w : World) (ns : List Int) (t : TypeId) (b : Nat) (hb : b = w.heap.size) : IntsIn (w.alloc (.cells (ns.map (Value.int .i64)).toArray t)) (some ⟨b, 0, none⟩) ns := fun i hi => by
  subst hb
  refine ⟨_, rfl, ?_⟩
  have h := heap_alloc_new w (.cells (ns.map (Value.int .i64)).toArray t)
  have h2 := cell_of_row (w.alloc (.cells (ns.map (Value.int .i64)).toArray t)) w.heap.size i (ns.map (Value.int .i64)).toArray t (0, 0) h
  rw [addr_add, Nat.zero_add, h2]
  simp [hi]
theorem intsIn_newD (w : World) (ns : List Int) (t : TypeId) (b : Nat) (hb : b = w.heap.size) : IntsIn (w.alloc (.cells (ns.map (Value.int .i64)).toArray t)).drew (some ⟨b, 0, none⟩) ns := intsIn_new w ns t b hb
/-- wpAnyH_take, the slot given. -/
theorem takeD {P : Program} {ops : Array Oper} {Q : Exit → Act → World → Prop} {md : Region.Mode} {S : World → Prop} (i : Nat) (d : Option Nat) {oi : Oper} {v : Value} {fuel : Nat} {listed : Array Bool} {a : Act} {w : World} (hi : ops[i]? = some oi) (hd : oi.dst = d)
    (hs : Region.noSelect ops = true) (hf : Region.free md ops listed i = true) (hr : (Region.ready md ops listed).contains i = true)
    (hQ : ∀ c a w, Q (.panic c) (a.put oi.dst v) w → Q (.panic c) a w) (hy : YieldsIf P ops S oi v a) (hS : S w)
    (h : wpAnyH P md ops Q S fuel (listed.setIfInBounds i true) (a.put d v) w) : wpAnyH P md ops Q S (fuel + 1) listed a w := by
  subst hd
  exact wpAnyH_take hi hs hf hr hQ hy hS h
/-- takeD, in short. -/
theorem takeE {P : Program} {ops : Array Oper} {Q : Exit → Act → World → Prop} {md : Region.Mode} {S : World → Prop} (i : Nat) (d : Option Nat) {oi : Oper} {v : Value} {fuel : Nat} {listed : Array Bool} {a : Act} {w : World} (hi : ops[i]? = some oi) (hd : oi.dst = d)
    (hrun : ∀ w, S w → (execOp a.eval oi).run P w = .ok (.value v) w) (hS : S w)
    (h : wpAnyH P md ops Q S fuel (listed.setIfInBounds i true) (a.put d v) w)
    (hs : Region.noSelect ops = true := by kernel_rfl) (hf : Region.free md ops listed i = true := by kernel_rfl) (hr : (Region.ready md ops listed).contains i = true := by kernel_rfl)
    (hQ : ∀ c a w, Q (.panic c) (a.put oi.dst v) w → Q (.panic c) a w := by exact fun _ _ _ h => h) (hw : Region.wanted oi (yielded ops a.tmps) = true := by kernel_rfl) : wpAnyH P md ops Q S (fuel + 1) listed a w :=
  takeD i d hi hd hs hf hr hQ (Or.inl ⟨hw, hrun⟩) hS h
theorem takeF {P : Program} {ops : Array Oper} {Q : Exit → Act → World → Prop} {md : Region.Mode} {S : World → Prop} (i : Nat) (d : Option Nat) {oi : Oper} {fuel : Nat} {listed : Array Bool} {a : Act} {w : World} (hi : ops[i]? = some oi) (hd : oi.dst = d) (hS : S w)
    (h : wpAnyH P md ops Q S fuel (listed.setIfInBounds i true) (a.put d undef) w)
    (hs : Region.noSelect ops = true := by kernel_rfl) (hf : Region.free md ops listed i = true := by kernel_rfl) (hr : (Region.ready md ops listed).contains i = true := by kernel_rfl)
    (hQ : ∀ c a w, Q (.panic c) (a.put oi.dst undef) w → Q (.panic c) a w := by exact fun _ _ _ h => h) (hw : Region.wanted oi (yielded ops a.tmps) = false := by kernel_rfl) : wpAnyH P md ops Q S (fuel + 1) listed a w :=
  takeD i d (v := undef) hi hd hs hf hr hQ (Or.inr ⟨hw, rfl⟩) hS h
theorem putS : (∀ (t : Array Value) ds (d : Nat) (v : Value), Act.put { tmps := t, defers := ds } (some d) v = { tmps := t.setIfInBounds d v, defers := ds }) ∧ (∀ (a : Act) (v : Value), a.put none v = a) ∧ (∀ (l : List Value) (i : Nat) (v : Value), l.toArray.setIfInBounds i v = (l.set i v).toArray) ∧ (∀ (x y : Value) (l : List Value), (x :: l).set 0 y = y :: l) ∧ (∀ (x y : Value) (l : List Value) (n : Nat), (x :: l).set (n + 1) y = x :: l.set n y) :=
  ⟨fun _ _ _ _ => rfl, fun _ _ => rfl, fun _ _ _ => List.setIfInBounds_toArray .., fun _ _ _ => rfl, fun _ _ _ _ => rfl⟩
def SumAt (W : World) (base : Int) (n : Nat) (fs : List Int) (gk : Nat) (v3 vi : Value) (wr : World) : Prop := ∃ i : Nat, gk = n - i ∧ i ≤ n ∧ vi = .int .i64 (i : Int) ∧ But No W wr ∧ v3 = .int .i64 (base + (fs.take i).sum)
end Go.Proofs.Ytoaopjbgaehpfaa.G
end
section
/- plan.size: the walk. -/
namespace Go.Proofs.Ytoaopjbgaehpfaa.G
open Go.RowKit
attribute [local simp, local go_sem] alloc_drewN setCell_drewN
set_option linter.unusedVariables false
set_option linter.unusedSimpArgs false
set_option maxRecDepth 100000
set_option maxHeartbeats 8000000 in
theorem size0 (At : Option Addr) (ct : Nat) (ts : List ByteArray) (Aj : Option Addr) (cj : Nat) (js : List JobP) (w : World) (hT : StrsIn w At ts) (hJ : JobsIn w Aj js) (hf : SizeFits ts js) :
    Calls Try.prog 40 #[.agg #[.slice At ts.length ct, .slice Aj js.length cj]] w fun e w' => e = .returned (.int .i64 (sizeP ts js)) ∧ Below w.heap.size w w' := by
  have htl := hf.texts
  have hjl := hf.jobs
  obtain ⟨B0, hB0⟩ : ∃ B, sumL [(ts.length : Int), (js.length : Int)] = B := ⟨_, rfl⟩
  have hb0 := sumL_bound [(ts.length : Int), (js.length : Int)]
  rw [hB0] at hb0
  simp only [List.length_cons, List.length_nil] at hb0
  have HB0 := Lib.hid hB0
  have HI2 := Lib.hid (show ∀ n ∈ [(ts.length : Int), (js.length : Int)], n ≤ 9223372036854775807 ∧ -9223372036854775808 ≤ n from by simp; omega)
  have HT := Lib.hid hT
  have HJ := Lib.hid hJ
  have HF := Lib.hid hf
  clear hT hJ hf hB0
  go_enter Try.func40, Try.ntmps40
  go_wp2_with (first | (go_at_call 54; refine (long0 _ _ [(ts.length : Int), (js.length : Int)] _ (intsIn_new _ [(ts.length : Int), (js.length : Int)] 3 _ (by simp)) (by simp) HI2.out).mono ?_; rw [HB0.out]; rintro e w2 ⟨rfl, rfl⟩))
  generalize hW : World.alloc (World.alloc _ _) _ = W0
  have HW0 := Lib.hid (show But No w W0 from hW ▸ (((But.refl No w).alloc _).alloc _))
  have z0 : W0.cell? ⟨w.heap.size, 1, none⟩ = some (.slice Aj js.length cj) := by rw [← hW]; clear hW HW0; go_simp
  clear hW
  go_loopg [3, 26] ts.length (fun gk v3 vi wr => SumAt W0 (5 + B0) ts.length (ts.map textSz) gk v3 vi wr)
  case atStart => exact ⟨0, rfl, Nat.zero_le _, rfl, But.refl _ _, by simp⟩
  case round =>
    obtain ⟨i, hgk, hi, rfl, hb, rfl⟩ := hrel
    have HGK := Lib.hid hgk
    have HBt := Lib.hid hb
    have z1 := hb.cell_some z0 (fun c => c)
    have hsb := textsSz_bnd HF.out.texts HF.out.sizes i
    obtain ⟨s0, hs0⟩ : ∃ s, ((ts.map textSz).take i).sum = s := ⟨_, rfl⟩
    rw [hs0] at hsb ⊢
    clear hgk hb z0
    by_cases hlt : i < ts.length
    · obtain ⟨ad, hA, k1⟩ := HT.out i hlt
      cases hA
      have hlt' : (i : Int) < (ts.length : Int) := by omega
      have dl : decide ((i : Int) < (ts.length : Int)) = true := decide_eq_true hlt'
      have hts := HF.out.sizes _ (List.getElem_mem hlt)
      have HTK := Lib.hid (sum_take_succ (fs := ts.map textSz) (i := i) (by rw [List.length_map]; exact hlt))
      obtain ⟨x, hx⟩ : ∃ x, ts[i] = x := ⟨_, rfl⟩
      rw [hx] at k1 hts
      have k1' := (HW0.out.trans HBt.out).cell_some k1 (fun c => c)
      obtain ⟨L, hL⟩ : ∃ L, sumL [(x.size : Int)] = L := ⟨_, rfl⟩
      have hLb := sumL_bound [(x.size : Int)]
      rw [hL] at hLb
      simp only [List.length_cons, List.length_nil] at hLb
      have HTK2 := Lib.hid (show ((ts.map textSz).take (i + 1)).sum = s0 + (L + (x.size : Int)) from by rw [HTK.out, hs0, List.getElem_map, hx]; unfold textSz; rw [hL])
      have HL := Lib.hid hL
      have HI1 := Lib.hid (show ∀ n ∈ [(x.size : Int)], n ≤ 9223372036854775807 ∧ -9223372036854775808 ≤ n from by simp; omega)
      clear hx hs0 HTK hL k1
      go_wp2_with (first | (go_at_call 54; refine (long0 _ _ [(x.size : Int)] _ (intsIn_new _ [(x.size : Int)] 3 _ (by simp)) (by simp) HI1.out).mono ?_; rw [HL.out]; rintro e w2 ⟨rfl, rfl⟩))
      go_roundg (ts.length - (i + 1))
      case measure => rw [HGK.out]; omega
      case rel => exact ⟨i + 1, rfl, by omega, by go_num, HBt.out.alloc _, by rw [HTK2.out]; go_num⟩
    · obtain rfl : i = ts.length := by omega
      have hlt' : ¬ (ts.length : Int) < (ts.length : Int) := by omega
      rw [List.take_of_length_le (by rw [List.length_map]; exact Nat.le_refl _)] at hs0
      have HS0 := Lib.hid hs0
      clear hs0
      go_wp2_with fail
      obtain ⟨B1, hB1⟩ : ∃ B, 5 + B0 + s0 = B := ⟨_, rfl⟩
      rw [show 5 + B0 + s0 = B1 from hB1]
      have hb1 : 0 ≤ B1 ∧ B1 ≤ 268697700 := by omega
      have HB1 := Lib.hid hB1
      clear hB1 hsb hb0 z1
      go_loopg [3, 43] js.length (fun gk v3 vi w' => SumAt W0 B1 js.length (js.map jobSz) gk v3 vi w')
      case atStart => exact ⟨0, rfl, Nat.zero_le _, rfl, HBt.out, by simp⟩
      case round =>
        obtain ⟨i, hgk, hi, rfl, hb, rfl⟩ := hrel
        have HGKj := Lib.hid hgk
        have HBj := Lib.hid hb
        have hsb := jobsSz_bnd HF.out.jobs HF.out.each i
        obtain ⟨s1, hs1⟩ : ∃ s, ((js.map jobSz).take i).sum = s := ⟨_, rfl⟩
        rw [hs1] at hsb ⊢
        clear hgk hb
        by_cases hlt : i < js.length
        case neg =>
          obtain rfl : i = js.length := by omega
          have hlt' : ¬ (js.length : Int) < (js.length : Int) := by omega
          rw [List.take_of_length_le (by rw [List.length_map]; exact Nat.le_refl _)] at hs1
          have E := Lib.hid (show sizeP ts js = B1 + s1 from by unfold sizeP; rw [HB0.out, HS0.out, HB1.out, hs1])
          clear hs1
          go_wp2_with fail
          go_ret
          exact ⟨by rw [E.out]; rfl, (HW0.out.trans HBj.out).belowNo⟩
        obtain ⟨ad, hA, Ar, Av, Ap, cr, cv, cp, hJi⟩ := HJ.out i hlt
        cases hA
        have hlt' : (i : Int) < (js.length : Int) := by omega
        have dl : decide ((i : Int) < (js.length : Int)) = true := decide_eq_true hlt'
        have hjs := HF.out.each _ (List.getElem_mem hlt)
        have HTK := Lib.hid (sum_take_succ (fs := js.map jobSz) (i := i) (by rw [List.length_map]; exact hlt))
        obtain ⟨j, hj⟩ : ∃ j, js[i] = j := ⟨_, rfl⟩
        rw [hj] at hJi hjs
        obtain ⟨L1, hL1⟩ : ∃ L, sumL [j.one.name, j.one.run, j.one.stage, j.one.when_, j.one.weight, (j.rules.length : Int), (j.vars.length : Int), (j.preds.length : Int)] = L := ⟨_, rfl⟩
        obtain ⟨L2, hL2⟩ : ∃ L, sumL j.preds = L := ⟨_, rfl⟩
        have hLb1 := sumL_bound [j.one.name, j.one.run, j.one.stage, j.one.when_, j.one.weight, (j.rules.length : Int), (j.vars.length : Int), (j.preds.length : Int)]
        have hLb2 := sumL_bound j.preds
        rw [hL1] at hLb1
        rw [hL2] at hLb2
        simp only [List.length_cons, List.length_nil] at hLb1
        have hp256 := hjs.preds
        have HTK2 := Lib.hid (show ((js.map jobSz).take (i + 1)).sum = s1 + (1 + L1 + L2 + (j.vars.map varSz).sum + (j.rules.map ruleSz).sum) from by rw [HTK.out, hs1, List.getElem_map, hj]; unfold jobSz; rw [hL1, hL2])
        have HI8 := Lib.hid (show ∀ n ∈ [j.one.name, j.one.run, j.one.stage, j.one.when_, j.one.weight, (j.rules.length : Int), (j.vars.length : Int), (j.preds.length : Int)], n ≤ 9223372036854775807 ∧ -9223372036854775808 ≤ n from by
          have h1 := hjs.rules
          have h2 := hjs.vars
          have h3 := hjs.preds
          intro n hn
          simp only [List.mem_cons, List.not_mem_nil, or_false] at hn
          rcases hn with rfl | rfl | rfl | rfl | rfl | rfl | rfl | rfl
          · exact hjs.name
          · exact hjs.run
          · exact hjs.stage
          · exact hjs.when_
          · exact hjs.weight
          · omega
          · omega
          · omega)
        have HL1 := Lib.hid hL1
        have HL2 := Lib.hid hL2
        have HJS := Lib.hid hjs
        have hB := HW0.out.trans HBj.out
        have k0 := hB.cell_some hJi.c0 (fun c => c)
        have k1 := hB.cell_some hJi.c1 (fun c => c)
        have k2 := hB.cell_some hJi.c2 (fun c => c)
        have k3 := hB.cell_some hJi.c3 (fun c => c)
        have k4 := hB.cell_some hJi.c4 (fun c => c)
        have k5 := hB.cell_some hJi.c5 (fun c => c)
        have k6 := hB.cell_some hJi.c6 (fun c => c)
        have k7 := hB.cell_some hJi.c7 (fun c => c)
        have k8 := hB.cell_some hJi.c8 (fun c => c)
        have HJI := Lib.hid hJi
        have HB := Lib.hid hB
        have hw1 : IntKind.i64.wrap (1 + L1) = 1 + L1 := by rw [IntKind.wrap_i64]; omega
        have hw2 : IntKind.i64.wrap (1 + L1 + L2) = 1 + L1 + L2 := by rw [IntKind.wrap_i64]; omega
        have hw3 : IntKind.i64.wrap (B1 + s1 + (1 + L1 + L2)) = B1 + s1 + (1 + L1 + L2) := by rw [IntKind.wrap_i64]; omega
        clear hj hs1 HTK hL1 hL2 hJi hjs hB
        go_wp2_with fail
        refine wp_region_held_drew (S := fun w' => w'.cell? ⟨wr.heap.size, 0, none⟩ = some (.int .i64 j.one.name) ∧ w'.cell? ⟨wr.heap.size, 1, none⟩ = some (.int .i64 j.one.run) ∧ w'.cell? ⟨wr.heap.size, 2, none⟩ = some (.int .i64 j.one.stage) ∧ w'.cell? ⟨wr.heap.size, 3, none⟩ = some (.int .i64 j.one.when_) ∧ w'.cell? ⟨wr.heap.size, 5, none⟩ = some (.int .i64 j.one.weight) ∧ w'.cell? ⟨wr.heap.size, 6, none⟩ = some (.slice Ar j.rules.length cr) ∧ w'.cell? ⟨wr.heap.size, 7, none⟩ = some (.slice Av j.vars.length cv) ∧ w'.cell? ⟨wr.heap.size, 8, none⟩ = some (.slice Ap j.preds.length cp)) (by kernel_rfl) ⟨by go_simp, by go_simp, by go_simp, by go_simp, by go_simp, by go_simp, by go_simp, by go_simp⟩ (fun hS => ?_)
        refine takeE 0 (some 47) rfl rfl (fun w ⟨e0, e1, e2, e3, e4, e5, e6, e7⟩ => by go_simp <;> (with_reducible rfl)) hS ?_
        simp only [putS]
        refine takeE 1 (some 48) rfl rfl (fun w ⟨e0, e1, e2, e3, e4, e5, e6, e7⟩ => by go_simp <;> (with_reducible rfl)) hS ?_
        simp only [putS]
        refine takeE 2 (some 49) rfl rfl (fun w ⟨e0, e1, e2, e3, e4, e5, e6, e7⟩ => by go_simp <;> (with_reducible rfl)) hS ?_
        simp only [putS]
        refine takeE 3 (some 50) rfl rfl (fun w ⟨e0, e1, e2, e3, e4, e5, e6, e7⟩ => by go_simp <;> (with_reducible rfl)) hS ?_
        simp only [putS]
        refine takeE 4 (some 51) rfl rfl (fun w ⟨e0, e1, e2, e3, e4, e5, e6, e7⟩ => by go_simp <;> (with_reducible rfl)) hS ?_
        simp only [putS]
        refine takeE 5 (some 52) rfl rfl (fun w ⟨e0, e1, e2, e3, e4, e5, e6, e7⟩ => by go_simp <;> (with_reducible rfl)) hS ?_
        simp only [putS]
        refine takeE 6 (some 53) rfl rfl (fun w ⟨e0, e1, e2, e3, e4, e5, e6, e7⟩ => by go_simp <;> (with_reducible rfl)) hS ?_
        simp only [putS]
        refine takeE 7 (some 54) rfl rfl (fun w ⟨e0, e1, e2, e3, e4, e5, e6, e7⟩ => by go_simp <;> (with_reducible rfl)) hS ?_
        simp only [putS]
        refine takeE 8 (some 55) rfl rfl (fun w ⟨e0, e1, e2, e3, e4, e5, e6, e7⟩ => by go_simp <;> (with_reducible rfl)) hS ?_
        simp only [putS]
        refine takeE 9 (some 56) rfl rfl (fun w ⟨e0, e1, e2, e3, e4, e5, e6, e7⟩ => by go_simp <;> (with_reducible rfl)) hS ?_
        simp only [putS]
        refine takeE 10 (some 57) rfl rfl (fun w ⟨e0, e1, e2, e3, e4, e5, e6, e7⟩ => by go_simp <;> (with_reducible rfl)) hS ?_
        simp only [putS]
        refine takeE 11 (some 58) rfl rfl (fun w ⟨e0, e1, e2, e3, e4, e5, e6, e7⟩ => by go_simp <;> (with_reducible rfl)) hS ?_
        simp only [putS]
        refine takeE 12 (some 59) rfl rfl (fun w ⟨e0, e1, e2, e3, e4, e5, e6, e7⟩ => by go_simp <;> (with_reducible rfl)) hS ?_
        simp only [putS]
        refine takeE 13 (some 60) rfl rfl (fun w ⟨e0, e1, e2, e3, e4, e5, e6, e7⟩ => by go_simp <;> (with_reducible rfl)) hS ?_
        simp only [putS]
        refine takeE 14 (some 61) rfl rfl (fun w ⟨e0, e1, e2, e3, e4, e5, e6, e7⟩ => by go_simp <;> (with_reducible rfl)) hS ?_
        simp only [putS]
        refine takeE 15 (some 62) rfl rfl (fun w ⟨e0, e1, e2, e3, e4, e5, e6, e7⟩ => by go_simp <;> (with_reducible rfl)) hS ?_
        simp only [putS]
        refine takeE 16 (some 63) rfl rfl (fun w ⟨e0, e1, e2, e3, e4, e5, e6, e7⟩ => by go_simp <;> (with_reducible rfl)) hS ?_
        simp only [putS]
        refine takeE 17 (some 64) rfl rfl (fun w ⟨e0, e1, e2, e3, e4, e5, e6, e7⟩ => by go_simp <;> (with_reducible rfl)) hS ?_
        simp only [putS]
        refine takeE 18 (some 65) rfl rfl (fun w ⟨e0, e1, e2, e3, e4, e5, e6, e7⟩ => by go_simp <;> (with_reducible rfl)) hS ?_
        simp only [putS]
        refine takeE 19 (some 66) rfl rfl (fun w ⟨e0, e1, e2, e3, e4, e5, e6, e7⟩ => by go_simp <;> (with_reducible rfl)) hS ?_
        simp only [putS]
        refine takeE 23 (some 70) rfl rfl (fun w ⟨e0, e1, e2, e3, e4, e5, e6, e7⟩ => by go_simp <;> (with_reducible rfl)) hS ?_
        simp only [putS]
        refine takeE 24 (some 71) rfl rfl (fun w ⟨e0, e1, e2, e3, e4, e5, e6, e7⟩ => by go_simp <;> (with_reducible rfl)) hS ?_
        simp only [putS]
        refine wpAnyH_ready (rs := [20]) (by kernel_rfl) (by simp) (AllReadyH.cons rfl (fun K hK => ?_) AllReadyH.nil)
        rw [if_pos (by kernel_rfl)]
        go_simp
        refine hK.out _ _ ⟨by go_simp, by go_simp, by go_simp, by go_simp, by go_simp, by go_simp, by go_simp, by go_simp⟩ (fun hS => ?_)
        try simp only [putS, List.getElem_toArray, List.getElem_cons_zero, List.getElem_cons_succ]
        refine wpAnyH_ready (rs := [21]) (by kernel_rfl) (by simp) (AllReadyH.cons rfl (fun K2 hK2 => ?_) AllReadyH.nil)
        rw [if_pos (by kernel_rfl)]
        go_simp
        go_at_call 54
        refine (long0 _ _ [j.one.name, j.one.run, j.one.stage, j.one.when_, j.one.weight, (j.rules.length : Int), (j.vars.length : Int), (j.preds.length : Int)] _ (intsIn_newD _ [j.one.name, j.one.run, j.one.stage, j.one.when_, j.one.weight, (j.rules.length : Int), (j.vars.length : Int), (j.preds.length : Int)] 3 _ (by simp)) (by simp) HI8.out).mono ?_
        rw [HL1.out]
        rintro e w2 ⟨rfl, rfl⟩
        simp only []
        refine hK2.out _ _ hS (fun hS => ?_)
        try simp only [putS, List.getElem_toArray, List.getElem_cons_zero, List.getElem_cons_succ]
        refine takeE 22 (some 69) rfl rfl (fun w ⟨e0, e1, e2, e3, e4, e5, e6, e7⟩ => by go_simp <;> (with_reducible rfl)) hS ?_
        simp only [putS]
        refine wpAnyH_ready (rs := [25]) (by kernel_rfl) (by simp) (AllReadyH.cons rfl (fun K3 hK3 => ?_) AllReadyH.nil)
        rw [if_pos (by kernel_rfl)]
        go_simp
        go_at_call 54
        refine (long0 Ap cp j.preds _ (HJI.out.preds.but (((HB.out.alloc _).alloc _).drew)) (by omega) HJS.out.froms).mono ?_
        rw [HL2.out]
        rintro e w2 ⟨rfl, rfl⟩
        simp only []
        refine hK3.out _ _ hS (fun hS => ?_)
        try simp only [putS, List.getElem_toArray, List.getElem_cons_zero, List.getElem_cons_succ]
        refine takeE 26 (some 73) rfl rfl (fun w ⟨e0, e1, e2, e3, e4, e5, e6, e7⟩ => by go_simp <;> (with_reducible rfl)) hS ?_
        simp only [putS]
        refine takeE 27 (some 74) rfl rfl (fun w ⟨e0, e1, e2, e3, e4, e5, e6, e7⟩ => by go_simp <;> (with_reducible rfl)) hS ?_
        simp only [putS]
        refine takeE 28 (some 3) rfl rfl (fun w ⟨e0, e1, e2, e3, e4, e5, e6, e7⟩ => by go_simp <;> (with_reducible rfl)) hS ?_
        simp only [putS]
        refine wpAnyH_done (by kernel_rfl) ?_ _
        obtain ⟨e0, e1, e2, e3, e5, e6, e7, e8⟩ := hS
        generalize hW1 : World.drew (World.alloc (World.alloc _ _) _) = W1 at e6 e7 ⊢
        have HW1 := Lib.hid (show But No wr W1 from hW1 ▸ (((But.refl No wr).alloc _).alloc _).drew)
        have HBW := Lib.hid (HB.out.trans HW1.out)
        have HBjW := Lib.hid (HBj.out.trans HW1.out)
        clear hS e0 e1 e2 e3 e5 e8 hW1 k0 k1 k2 k3 k4 k5 k6 k7 k8
        generalize wr.heap.size = g7 at e6 e7 ⊢
        obtain ⟨B2, hB2⟩ : ∃ B, B1 + s1 + (1 + L1 + L2) = B := ⟨_, rfl⟩
        rw [hB2]
        have hb2 : 0 ≤ B2 ∧ B2 ≤ 319999999 := by omega
        have HB2 := Lib.hid hB2
        have hrl := HJS.out.rules
        have hvl := HJS.out.vars
        clear hB2 hsb hw1 hw2 hw3 hLb1 hLb2 hp256 hb1
        go_wp2_with fail
        go_loopg [3, 78] j.vars.length (fun gk v3 vi w' => SumAt W1 B2 j.vars.length (j.vars.map varSz) gk v3 vi w')
        case atStart => exact ⟨0, rfl, Nat.zero_le _, rfl, But.refl _ _, by simp⟩
        case round =>
          obtain ⟨k, hgk, hk, rfl, hb, rfl⟩ := hrel
          have HGKv := Lib.hid hgk
          have HBv := Lib.hid hb
          have y6 := hb.cell_some e6 (fun c => c)
          have hsb := varsSz_bnd hvl k
          obtain ⟨s2, hs2⟩ : ∃ s, ((j.vars.map varSz).take k).sum = s := ⟨_, rfl⟩
          rw [hs2] at hsb ⊢
          clear hgk hb
          by_cases hltv : k < j.vars.length
          · obtain ⟨adv, hAv, n1, n2⟩ := HJI.out.vars k hltv
            cases hAv
            have hltv' : (k : Int) < (j.vars.length : Int) := by omega
            have dlv : decide ((k : Int) < (j.vars.length : Int)) = true := decide_eq_true hltv'
            have hin := HJS.out.names _ (List.getElem_mem hltv)
            have HTV := Lib.hid (sum_take_succ (fs := j.vars.map varSz) (i := k) (by rw [List.length_map]; exact hltv))
            obtain ⟨⟨vn, vl⟩, hv⟩ : ∃ v, j.vars[k] = v := ⟨_, rfl⟩
            rw [hv] at n1 n2 hin
            dsimp only at n1 n2 hin
            have n1' := (HBW.out.trans HBv.out).cell_some n1 (fun c => c)
            have n2' := (HBW.out.trans HBv.out).cell_some n2 (fun c => c)
            obtain ⟨L3, hL3⟩ : ∃ L, sumL [vn, vl] = L := ⟨_, rfl⟩
            have hLb3 := sumL_bound [vn, vl]
            rw [hL3] at hLb3
            simp only [List.length_cons, List.length_nil] at hLb3
            have HTV2 := Lib.hid (show ((j.vars.map varSz).take (k + 1)).sum = s2 + L3 from by rw [HTV.out, hs2, List.getElem_map, hv]; unfold varSz; rw [hL3])
            have HL3 := Lib.hid hL3
            have HIV := Lib.hid (show ∀ n ∈ [vn, vl], n ≤ 9223372036854775807 ∧ -9223372036854775808 ≤ n from by intro n hn; simp only [List.mem_cons, List.not_mem_nil, or_false] at hn; rcases hn with rfl | rfl; exact hin.1; exact hin.2)
            clear hv hs2 HTV hL3 n1 n2 hin e6 e7 y6
            go_wp2_with (first | (go_at_call 54; refine (long0 _ _ [vn, vl] _ (intsIn_new _ [vn, vl] 3 _ (by simp)) (by simp) HIV.out).mono ?_; rw [HL3.out]; rintro e w2 ⟨rfl, rfl⟩))
            go_roundg (j.vars.length - (k + 1))
            case measure => rw [HGKv.out]; omega
            case rel => exact ⟨k + 1, rfl, by omega, by go_num, (HBv.out.alloc _).alloc _, by rw [HTV2.out]; go_num⟩
          obtain rfl : k = j.vars.length := by omega
          have hltv' : ¬ (j.vars.length : Int) < (j.vars.length : Int) := by omega
          rw [List.take_of_length_le (by rw [List.length_map]; exact Nat.le_refl _)] at hs2
          have HS2 := Lib.hid hs2
          clear hs2 hltv e7 e6
          go_wp2_with fail
          obtain ⟨B3, hB3⟩ : ∃ B, B2 + s2 = B := ⟨_, rfl⟩
          rw [hB3]
          have hb3 : 0 ≤ B3 ∧ B3 ≤ 329999999 := by omega
          have HB3 := Lib.hid hB3
          clear hB3 hsb y6 hb2
          go_loopg [3, 94] j.rules.length (fun gk v3 vi w' => SumAt W1 B3 j.rules.length (j.rules.map ruleSz) gk v3 vi w')
          case atStart => exact ⟨0, rfl, Nat.zero_le _, rfl, HBv.out, by simp⟩
          case round =>
            obtain ⟨k, hgk, hk, rfl, hb, rfl⟩ := hrel
            have HGKr := Lib.hid hgk
            have HBr := Lib.hid hb
            have hsb := rulesSz_bnd hrl HJS.out.codes k
            obtain ⟨s3, hs3⟩ : ∃ s, ((j.rules.map ruleSz).take k).sum = s := ⟨_, rfl⟩
            rw [hs3] at hsb ⊢
            clear hgk hb
            by_cases hltr : k < j.rules.length
            case neg =>
              obtain rfl : k = j.rules.length := by omega
              have hltr' : ¬ (j.rules.length : Int) < (j.rules.length : Int) := by omega
              rw [List.take_of_length_le (by rw [List.length_map]; exact Nat.le_refl _)] at hs3
              have E := Lib.hid (show B1 + ((js.map jobSz).take (i + 1)).sum = B3 + s3 from by
                have h1 := HTK2.out
                rw [HS2.out, hs3] at h1
                have h2 := HB3.out
                have h3 := HB2.out
                omega)
              clear hs3
              go_wp2_with fail
              go_roundg (js.length - (i + 1))
              case measure => rw [HGKj.out]; omega
              case rel => exact ⟨i + 1, rfl, by omega, by go_num, HBjW.out.trans HBr.out, by rw [E.out]⟩
            obtain ⟨adr, hAr, Ac, cc, n1, n2, hPc⟩ := HJI.out.rules k hltr
            cases hAr
            have hltr' : (k : Int) < (j.rules.length : Int) := by omega
            have dlr : decide ((k : Int) < (j.rules.length : Int)) = true := decide_eq_true hltr'
            have hin := HJS.out.whens _ (List.getElem_mem hltr)
            have hcl := HJS.out.codes _ (List.getElem_mem hltr)
            have hst := HJS.out.steps _ (List.getElem_mem hltr)
            have HTR := Lib.hid (sum_take_succ (fs := j.rules.map ruleSz) (i := k) (by rw [List.length_map]; exact hltr))
            obtain ⟨⟨code, wh⟩, hv⟩ : ∃ v, j.rules[k] = v := ⟨_, rfl⟩
            rw [hv] at n1 n2 hin hPc hcl hst
            dsimp only at n1 n2 hin hPc hcl hst
            have n1' := (HBW.out.trans HBr.out).cell_some n1 (fun c => c)
            have n2' := (HBW.out.trans HBr.out).cell_some n2 (fun c => c)
            obtain ⟨L4, hL4⟩ : ∃ L, sumL [wh, (code.length : Int)] = L := ⟨_, rfl⟩
            have hLb4 := sumL_bound [wh, (code.length : Int)]
            rw [hL4] at hLb4
            simp only [List.length_cons, List.length_nil] at hLb4
            have HTR2 := Lib.hid (show ((j.rules.map ruleSz).take (k + 1)).sum = s3 + (L4 + (code.length : Int) + (code.map stepSz).sum) from by rw [HTR.out, hs3, List.getElem_map, hv]; unfold ruleSz; dsimp only; rw [hL4])
            have HL4 := Lib.hid hL4
            have HIR := Lib.hid (show ∀ n ∈ [wh, (code.length : Int)], n ≤ 9223372036854775807 ∧ -9223372036854775808 ≤ n from by
              intro n hn
              simp only [List.mem_cons, List.not_mem_nil, or_false] at hn
              rcases hn with rfl | rfl
              · exact hin
              · omega)
            have HPC := Lib.hid hPc
            have HST := Lib.hid hst
            have HBB := Lib.hid (HBW.out.trans HBr.out)
            have hw4 : IntKind.i64.wrap (L4 + (code.length : Int)) = L4 + (code.length : Int) := by rw [IntKind.wrap_i64]; omega
            have hw5 : IntKind.i64.wrap (B3 + s3 + (L4 + (code.length : Int))) = B3 + s3 + (L4 + (code.length : Int)) := by rw [IntKind.wrap_i64]; omega
            clear hv hs3 HTR hL4 n1 n2 hin hPc hst
            go_wp2_with fail
            refine wp_region_held_drew (S := fun w' => w'.cell? ⟨wr.heap.size, 0, none⟩ = some (.slice Ac code.length cc) ∧ w'.cell? ⟨wr.heap.size, 1, none⟩ = some (.int .i64 wh)) (by kernel_rfl) ⟨by go_simp, by go_simp⟩ (fun hS => ?_)
            refine takeE 0 (some 98) rfl rfl (fun w ⟨e0, e1⟩ => by go_simp <;> (with_reducible rfl)) hS ?_
            simp only [putS]
            refine takeE 1 (some 99) rfl rfl (fun w ⟨e0, e1⟩ => by go_simp <;> (with_reducible rfl)) hS ?_
            simp only [putS]
            refine takeE 2 (some 100) rfl rfl (fun w ⟨e0, e1⟩ => by go_simp <;> (with_reducible rfl)) hS ?_
            simp only [putS]
            refine takeE 3 (some 101) rfl rfl (fun w ⟨e0, e1⟩ => by go_simp <;> (with_reducible rfl)) hS ?_
            simp only [putS]
            refine takeE 4 (some 102) rfl rfl (fun w ⟨e0, e1⟩ => by go_simp <;> (with_reducible rfl)) hS ?_
            simp only [putS]
            refine takeE 5 (some 103) rfl rfl (fun w ⟨e0, e1⟩ => by go_simp <;> (with_reducible rfl)) hS ?_
            simp only [putS]
            refine takeE 8 (some 106) rfl rfl (fun w ⟨e0, e1⟩ => by go_simp <;> (with_reducible rfl)) hS ?_
            simp only [putS]
            refine takeE 9 (some 107) rfl rfl (fun w ⟨e0, e1⟩ => by go_simp <;> (with_reducible rfl)) hS ?_
            simp only [putS]
            refine takeE 10 (some 108) rfl rfl (fun w ⟨e0, e1⟩ => by go_simp <;> (with_reducible rfl)) hS ?_
            simp only [putS]
            refine wpAnyH_ready (rs := [6]) (by kernel_rfl) (by simp) (AllReadyH.cons rfl (fun K4 hK4 => ?_) AllReadyH.nil)
            rw [if_pos (by kernel_rfl)]
            go_simp
            refine hK4.out _ _ ⟨by go_simp, by go_simp⟩ (fun hS => ?_)
            try simp only [putS, List.getElem_toArray, List.getElem_cons_zero, List.getElem_cons_succ]
            refine wpAnyH_ready (rs := [7]) (by kernel_rfl) (by simp) (AllReadyH.cons rfl (fun K5 hK5 => ?_) AllReadyH.nil)
            rw [if_pos (by kernel_rfl)]
            go_simp
            go_at_call 54
            refine (long0 _ _ [wh, (code.length : Int)] _ (intsIn_newD _ [wh, (code.length : Int)] 3 _ (by simp)) (by simp) HIR.out).mono ?_
            rw [HL4.out]
            rintro e w2 ⟨rfl, rfl⟩
            simp only []
            refine hK5.out _ _ hS (fun hS => ?_)
            try simp only [putS, List.getElem_toArray, List.getElem_cons_zero, List.getElem_cons_succ]
            refine takeE 11 (some 109) rfl rfl (fun w ⟨e0, e1⟩ => by go_simp <;> (with_reducible rfl)) hS ?_
            simp only [putS]
            refine takeE 12 (some 110) rfl rfl (fun w ⟨e0, e1⟩ => by go_simp <;> (with_reducible rfl)) hS ?_
            simp only [putS]
            refine takeE 13 (some 3) rfl rfl (fun w ⟨e0, e1⟩ => by go_simp <;> (with_reducible rfl)) hS ?_
            simp only [putS]
            refine wpAnyH_done (by kernel_rfl) ?_ _
            obtain ⟨e0, e1⟩ := hS
            generalize hW2 : World.drew (World.alloc (World.alloc _ _) _) = W2 at e0 ⊢
            have HW2 := Lib.hid (show But No wr W2 from hW2 ▸ (((But.refl No wr).alloc _).alloc _).drew)
            have HBW2 := Lib.hid (HBB.out.trans HW2.out)
            have HBr2 := Lib.hid (HBr.out.trans HW2.out)
            clear e1 hW2 n1' n2'
            generalize wr.heap.size = g11 at e0 ⊢
            obtain ⟨B4, hB4⟩ : ∃ B, B3 + s3 + (L4 + (code.length : Int)) = B := ⟨_, rfl⟩
            rw [hB4]
            have hb4 : 0 ≤ B4 ∧ B4 ≤ 339999999 := by omega
            have HB4 := Lib.hid hB4
            clear hB4 hsb hw4 hw5 hLb4 hb3
            go_wp2_with fail
            go_loopg [3, 114] code.length (fun gk v3 vi w' => SumAt W2 B4 code.length (code.map stepSz) gk v3 vi w')
            case atStart => exact ⟨0, rfl, Nat.zero_le _, rfl, But.refl _ _, by simp⟩
            case round =>
              obtain ⟨m, hgk, hm, rfl, hb, rfl⟩ := hrel
              have HGKs := Lib.hid hgk
              have HBs := Lib.hid hb
              have hsb := stepsSz_bnd hcl m
              obtain ⟨s4, hs4⟩ : ∃ s, ((code.map stepSz).take m).sum = s := ⟨_, rfl⟩
              rw [hs4] at hsb ⊢
              clear hgk hb e0
              by_cases hlts : m < code.length
              case neg =>
                obtain rfl : m = code.length := by omega
                have hlts' : ¬ (code.length : Int) < (code.length : Int) := by omega
                rw [List.take_of_length_le (by rw [List.length_map]; exact Nat.le_refl _)] at hs4
                have E := Lib.hid (show B3 + ((j.rules.map ruleSz).take (k + 1)).sum = B4 + s4 from by
                  have h1 := HTR2.out
                  rw [hs4] at h1
                  have h2 := HB4.out
                  omega)
                clear hs4
                go_wp2_with fail
                go_roundg (j.rules.length - (k + 1))
                case measure => rw [HGKr.out]; omega
                case rel => exact ⟨k + 1, rfl, by omega, by go_num, HBr2.out.trans HBs.out, by rw [E.out]⟩
              obtain ⟨adc, hAc, n1, n2⟩ := HPC.out m hlts
              cases hAc
              have hlts' : (m : Int) < (code.length : Int) := by omega
              have dls : decide ((m : Int) < (code.length : Int)) = true := decide_eq_true hlts'
              have hin := HST.out _ (List.getElem_mem hlts)
              have HTS := Lib.hid (sum_take_succ (fs := code.map stepSz) (i := m) (by rw [List.length_map]; exact hlts))
              obtain ⟨⟨xk, xt⟩, hv⟩ : ∃ v, code[m] = v := ⟨_, rfl⟩
              rw [hv] at n1 n2 hin
              dsimp only at n1 n2 hin
              have n1' := (HBW2.out.trans HBs.out).cell_some n1 (fun c => c)
              have n2' := (HBW2.out.trans HBs.out).cell_some n2 (fun c => c)
              have HIS := Lib.hid (show ∀ n ∈ [xt], n ≤ 9223372036854775807 ∧ -9223372036854775808 ≤ n from by intro n hn; simp only [List.mem_cons, List.not_mem_nil, or_false] at hn; rcases hn with rfl; exact hin)
              obtain ⟨b, hbb⟩ : ∃ b, saysB xk = b := ⟨_, rfl⟩
              have HSB := Lib.hid hbb
              clear n1 n2 hin hbb
              cases b with
              | false =>
                have E := Lib.hid (show ((code.map stepSz).take (m + 1)).sum = s4 from by rw [HTS.out, hs4, List.getElem_map, hv]; unfold stepSz; dsimp only; rw [HSB.out]; simp)
                clear hv hs4 HTS
                go_wp2_with (first | (go_at_call 55; refine (says0 xk _).mono ?_; rw [HSB.out]; rintro e w2 ⟨rfl, rfl⟩))
                go_roundg (code.length - (m + 1))
                case measure => rw [HGKs.out]; omega
                case rel => exact ⟨m + 1, rfl, by omega, by go_num, HBs.out.alloc _, by rw [E.out]⟩
              | true =>
                obtain ⟨L5, hL5⟩ : ∃ L, sumL [xt] = L := ⟨_, rfl⟩
                have hLb5 := sumL_bound [xt]
                rw [hL5] at hLb5
                simp only [List.length_cons, List.length_nil] at hLb5
                have HL5 := Lib.hid hL5
                have E := Lib.hid (show ((code.map stepSz).take (m + 1)).sum = s4 + L5 from by rw [HTS.out, hs4, List.getElem_map, hv]; unfold stepSz; dsimp only; rw [HSB.out, hL5]; rfl)
                clear hv hs4 HTS hL5
                go_wp2_with (first | (go_at_call 55; refine (says0 xk _).mono ?_; rw [HSB.out]; rintro e w2 ⟨rfl, rfl⟩) | (go_at_call 54; refine (long0 _ _ [xt] _ (intsIn_new _ [xt] 3 _ (by simp)) (by simp) HIS.out).mono ?_; rw [HL5.out]; rintro e w2 ⟨rfl, rfl⟩))
                go_roundg (code.length - (m + 1))
                case measure => rw [HGKs.out]; omega
                case rel => exact ⟨m + 1, rfl, by omega, by go_num, (HBs.out.alloc _).alloc _, by rw [E.out]; go_num⟩
end Go.Proofs.Ytoaopjbgaehpfaa.G
end
section
/- plan.Check, plan.Size: which plans may be, and how long they are. -/
namespace Go.Proofs.Ytoaopjbgaehpfaa.G
open Go.RowKit
attribute [local simp, local go_sem] alloc_drewN setCell_drewN
set_option linter.unusedVariables false
set_option linter.unusedSimpArgs false
set_option maxRecDepth 100000
def okP (ts : List ByteArray) (js : List JobP) : Bool := decide (partsC ts js = 0) && decide (sizeP ts js ≤ 262144)
theorem parts_texts {ts : List ByteArray} {js : List JobP} (h : partsC ts js = 0) : textsC ts js.length = 0 ∧ jobsC ts [] 0 js = 0 := by
  unfold partsC at h
  by_cases c : textsC ts js.length = 0
  · rw [if_pos c] at h
    exact ⟨c, h⟩
  · rw [if_neg c] at h
    exact absurd h c
theorem texts_fit {ts : List ByteArray} {n : Nat} (h : textsC ts n = 0) : n ≤ 256 ∧ ts.length ≤ 65536 ∧ risesB ts = true ∧ ∀ s ∈ ts, s.size ≤ 4096 := by
  unfold textsC at h
  by_cases c : manyB ts.length n = true
  · rw [if_pos c] at h
    by_cases d : risesB ts = true
    · unfold manyB at c
      rw [Bool.and_eq_true, decide_eq_true_eq, decide_eq_true_eq] at c
      refine ⟨c.1, c.2, d, fun s hs => ?_⟩
      obtain ⟨i, hi, rfl⟩ := List.mem_iff_getElem.1 hs
      have := List.all_eq_true.1 d i (List.mem_range.2 hi)
      unfold txtB at this
      rw [Bool.and_eq_true, decide_eq_true_eq] at this
      have h2 := this.2
      rw [List.getD_eq_getElem?_getD, List.getElem?_eq_getElem hi] at h2
      exact h2
    · rw [if_neg d] at h
      exact absurd h (by decide)
  · rw [if_neg c] at h
    exact absurd h (by decide)
theorem jobC_parts {ts : List ByteArray} {seen : List Int} {no : Nat} {j : JobP} (h : jobC ts seen no j = 0) : fieldsB ts.length seen j.one = true ∧ rulesB ts j.rules = true ∧ varsB ts j.vars = true ∧ predsB no j.preds = true := by
  unfold jobC at h
  by_cases a : fieldsB ts.length seen j.one = true
  · rw [if_pos a] at h
    by_cases b : rulesB ts j.rules = true
    · rw [if_pos b] at h
      by_cases c : varsB ts j.vars = true
      · rw [if_pos c] at h
        by_cases d : predsB no j.preds = true
        · exact ⟨a, b, c, d⟩
        · rw [if_neg d] at h; exact absurd h (by decide)
      · rw [if_neg c] at h; exact absurd h (by decide)
    · rw [if_neg b] at h; exact absurd h (by decide)
  · rw [if_neg a] at h; exact absurd h (by decide)
theorem jobsC_all {ts : List ByteArray} : ∀ {js : List JobP} {seen : List Int} {no : Nat}, jobsC ts seen no js = 0 → ∀ j ∈ js, ∃ seen' no', jobC ts seen' no' j = 0 ∧ no' < no + js.length
  | [], _, _, _, j, hj => absurd hj List.not_mem_nil
  | k :: l, seen, no, h, j, hj => by
    unfold jobsC at h
    by_cases c : jobC ts seen no k = 0
    · rw [if_pos c] at h
      rcases List.mem_cons.1 hj with rfl | hj
      · exact ⟨seen, no, c, by simp⟩
      · obtain ⟨s', n', h1, h2⟩ := jobsC_all h j hj
        exact ⟨s', n', h1, by rw [List.length_cons]; omega⟩
    · rw [if_neg c] at h
      exact absurd h c
theorem textB_in {n : Int} {nt : Nat} (h : textB n nt = true) : 0 ≤ n ∧ n < (nt : Int) := by
  unfold textB at h
  rwa [Bool.and_eq_true, decide_eq_true_eq, decide_eq_true_eq] at h
theorem whenB_in {n : Int} (h : whenB n = true) : 0 ≤ n ∧ n ≤ 3 := by
  unfold whenB at h
  rwa [Bool.and_eq_true, decide_eq_true_eq, decide_eq_true_eq] at h
theorem preds_rise {no : Int} {t : List Int} (h : predsB no t = true) : ∀ i, i < t.length → (i : Int) ≤ t.getD i 0 ∧ t.getD i 0 < no
  | 0, hi => by
    have := List.all_eq_true.1 h 0 (List.mem_range.2 hi)
    unfold predB at this
    rw [Bool.and_eq_true, Bool.and_eq_true, decide_eq_true_eq, decide_eq_true_eq] at this
    exact ⟨this.1.1, this.1.2⟩
  | i + 1, hi => by
    have := List.all_eq_true.1 h (i + 1) (List.mem_range.2 hi)
    unfold predB at this
    rw [Bool.and_eq_true, Bool.and_eq_true, decide_eq_true_eq, decide_eq_true_eq, Nat.add_sub_cancel] at this
    have h1 := preds_rise h i (by omega)
    have h2 : t.getD i 0 < t.getD (i + 1) 0 := by simpa using this.2
    exact ⟨by omega, this.1.2⟩
theorem small_of_job {ts : List ByteArray} {seen : List Int} {no : Nat} {j : JobP} (ht : ts.length ≤ 65536) (hn : no ≤ 256) (h : jobC ts seen no j = 0) : JobSmall j := by
  obtain ⟨h1, h2, h3, h4⟩ := jobC_parts h
  unfold fieldsB at h1
  simp only [Bool.and_eq_true, decide_eq_true_eq] at h1
  obtain ⟨⟨⟨⟨⟨⟨⟨a1, a2⟩, _⟩, a3⟩, a4⟩, a5⟩, a6⟩, a7⟩ := h1
  have a1 := textB_in a1
  have a2 := textB_in a2
  have a5 := whenB_in a5
  unfold rulesB at h2
  rw [Bool.and_eq_true, decide_eq_true_eq] at h2
  have h2b := fun r hr => List.all_eq_true.1 h2.2 r hr
  unfold varsB at h3
  rw [Bool.and_eq_true, decide_eq_true_eq] at h3
  have h4b := preds_rise h4
  refine ⟨h2.1, h3.1, ?_, ?_, ⟨by omega, by omega⟩, ⟨by omega, by omega⟩, ⟨by omega, by omega⟩, ⟨by omega, by omega⟩, ⟨by omega, by omega⟩, ?_, ?_, ?_, ?_⟩
  · rcases Nat.eq_zero_or_pos j.preds.length with h0 | h0
    · omega
    · have := h4b (j.preds.length - 1) (by omega)
      omega
  · intro r hr
    have := h2b r hr
    unfold ruleB at this
    simp only [Bool.and_eq_true, Bool.or_eq_true, beq_iff_eq] at this
    rcases this.2 with h | h
    · omega
    · unfold checkB at h
      rw [Bool.and_eq_true, decide_eq_true_eq, List.length_map] at h
      exact h.1
  · intro r hr
    have := h2b r hr
    unfold ruleB at this
    simp only [Bool.and_eq_true] at this
    have := whenB_in this.1.2
    exact ⟨by omega, by omega⟩
  · intro r hr x hx
    have := h2b r hr
    unfold ruleB at this
    simp only [Bool.and_eq_true] at this
    have := List.all_eq_true.1 this.1.1 x hx
    unfold stepOk at this
    split at this
    · have := textB_in this
      exact ⟨by omega, by omega⟩
    · have : x.2 = 0 := by simpa using this
      exact ⟨by omega, by omega⟩
  · intro v hv
    obtain ⟨i, hi, rfl⟩ := List.mem_iff_getElem.1 hv
    have := List.all_eq_true.1 h3.2 i (List.mem_range.2 hi)
    unfold varB at this
    simp only [Bool.and_eq_true] at this
    rw [List.getD_eq_getElem?_getD, List.getElem?_eq_getElem hi] at this
    have b1 := textB_in this.1.1.1
    have b2 := textB_in this.1.1.2
    simp only [Option.getD_some] at b1 b2
    exact ⟨⟨by omega, by omega⟩, ⟨by omega, by omega⟩⟩
  · intro p hp
    obtain ⟨i, hi, rfl⟩ := List.mem_iff_getElem.1 hp
    have := h4b i hi
    rw [List.getD_eq_getElem?_getD, List.getElem?_eq_getElem hi] at this
    simp only [Option.getD_some] at this
    exact ⟨by omega, by omega⟩
theorem size_fits {ts : List ByteArray} {js : List JobP} (h : partsC ts js = 0) : SizeFits ts js := by
  obtain ⟨h1, h2⟩ := parts_texts h
  obtain ⟨a, b, c, d⟩ := texts_fit h1
  refine ⟨b, d, a, fun j hj => ?_⟩
  obtain ⟨s', n', h3, h4⟩ := jobsC_all h2 j hj
  exact small_of_job b (by omega) h3
theorem JobsIn.but {w w' : World} {A : Option Addr} {js : List JobP} (h : JobsIn w A js) (hb : But No w w') : JobsIn w' A js := fun i hi => by
  obtain ⟨ad, hA, Ar, Av, Ap, cr, cv, cp, k⟩ := h i hi
  exact ⟨ad, hA, Ar, Av, Ap, cr, cv, cp, ⟨hb.cell_some k.c0 (fun c => c), hb.cell_some k.c1 (fun c => c), hb.cell_some k.c2 (fun c => c), hb.cell_some k.c3 (fun c => c), hb.cell_some k.c4 (fun c => c), hb.cell_some k.c5 (fun c => c), hb.cell_some k.c6 (fun c => c), hb.cell_some k.c7 (fun c => c), hb.cell_some k.c8 (fun c => c), k.rules.but hb, k.vars.but hb, k.preds.but hb⟩⟩
/-- A plan that comes in. -/
structure PlanIn (w : World) (At : Option Addr) (ts : List ByteArray) (Aj : Option Addr) (js : List JobP) : Prop where
  texts : StrsIn w At ts
  jobs : JobsIn w Aj js
  tl : ts.length ≤ 9223372036854775807
  jl : js.length ≤ 9223372036854775807
  sizes : ∀ s ∈ ts, s.size ≤ 9223372036854775807
  fits : ∀ j ∈ js, JobFits j
theorem PlanIn.but {w w' : World} {At Aj : Option Addr} {ts : List ByteArray} {js : List JobP} (h : PlanIn w At ts Aj js) (hb : But No w w') : PlanIn w' At ts Aj js :=
  ⟨h.texts.but hb, h.jobs.but hb, h.tl, h.jl, h.sizes, h.fits⟩
theorem check_ok {w : World} {At Aj : Option Addr} {ts : List ByteArray} {js : List JobP} (ct cj : Nat) (h : PlanIn w At ts Aj js) (hok : okP ts js = true) :
    Calls Try.prog 19 #[.agg #[.slice At ts.length ct, .slice Aj js.length cj]] w fun e w' => (∃ n, e = .returned (.tuple #[.int .i64 n, .int .i64 0])) ∧ Below w.heap.size w w' := by
  unfold okP at hok
  rw [Bool.and_eq_true, decide_eq_true_eq, decide_eq_true_eq] at hok
  have HP := Lib.hid (fun W (hW : But No w W) => parts0 At ct ts Aj cj js W (h.but hW).texts (h.but hW).jobs h.tl h.jl h.sizes h.fits)
  have HZ := Lib.hid (fun W (hW : But No w W) => size0 At ct ts Aj cj js W (h.but hW).texts (h.but hW).jobs (size_fits hok.1))
  have H1 := Lib.hid hok.1
  have hle : ¬ 262144 < sizeP ts js := by omega
  have hle' : decide (262144 < sizeP ts js) = false := decide_eq_false hle
  clear hok
  generalize sizeP ts js = Z at HZ hle hle'
  go_enter Try.func19, Try.ntmps19
  go_wp2_with (first | (go_at_call 39; refine (HP.out _ ((But.refl No w).alloc _)).mono ?_; rw [H1.out]; rintro e w1 ⟨⟨n, rfl⟩, hb⟩; (have q0 := (hb.cell (p := ⟨w.heap.size, 0, none⟩) (by simp)).trans (show _ = some (.slice At ts.length ct) from by go_simp)); (have q1 := (hb.cell (p := ⟨w.heap.size, 1, none⟩) (by simp)).trans (show _ = some (.slice Aj js.length cj) from by go_simp)); (have HB1 := Lib.hid (((But.refl No w).alloc _).trans (But.of_below (S := No) hb))); clear hb) | (go_at_call 40; refine (HZ.out _ HB1.out).mono ?_; rintro e w2 ⟨rfl, hb⟩; (have HB2 := Lib.hid (HB1.out.trans (But.of_below (S := No) hb))); clear hb))
  go_ret2
  exact ⟨⟨_, rfl⟩, HB2.out.belowNo⟩
theorem check_no {w : World} {At Aj : Option Addr} {ts : List ByteArray} {js : List JobP} (ct cj : Nat) (h : PlanIn w At ts Aj js) (hok : okP ts js = false) :
    Calls Try.prog 19 #[.agg #[.slice At ts.length ct, .slice Aj js.length cj]] w fun e w' => (∃ n c : Int, (c == 0) = false ∧ e = .returned (.tuple #[.int .i64 n, .int .i64 c])) ∧ Below w.heap.size w w' := by
  have HP := Lib.hid (fun W (hW : But No w W) => parts0 At ct ts Aj cj js W (h.but hW).texts (h.but hW).jobs h.tl h.jl h.sizes h.fits)
  by_cases h1 : partsC ts js = 0
  · have HZ := Lib.hid (fun W (hW : But No w W) => size0 At ct ts Aj cj js W (h.but hW).texts (h.but hW).jobs (size_fits h1))
    have hle : 262144 < sizeP ts js := by
      unfold okP at hok
      rw [decide_eq_true h1, Bool.true_and, decide_eq_false_iff_not] at hok
      omega
    have H1 := Lib.hid h1
    have hle' : decide (262144 < sizeP ts js) = true := decide_eq_true hle
    clear hok h1
    generalize sizeP ts js = Z at HZ hle hle'
    go_enter Try.func19, Try.ntmps19
    go_wp2_with (first | (go_at_call 39; refine (HP.out _ ((But.refl No w).alloc _)).mono ?_; rw [H1.out]; rintro e w1 ⟨⟨n, rfl⟩, hb⟩; (have q0 := (hb.cell (p := ⟨w.heap.size, 0, none⟩) (by simp)).trans (show _ = some (.slice At ts.length ct) from by go_simp)); (have q1 := (hb.cell (p := ⟨w.heap.size, 1, none⟩) (by simp)).trans (show _ = some (.slice Aj js.length cj) from by go_simp)); (have HB1 := Lib.hid (((But.refl No w).alloc _).trans (But.of_below (S := No) hb))); clear hb) | (go_at_call 40; refine (HZ.out _ HB1.out).mono ?_; rintro e w2 ⟨rfl, hb⟩; (have HB2 := Lib.hid (HB1.out.trans (But.of_below (S := No) hb))); clear hb))
    go_ret2
    exact ⟨⟨_, _, rfl, rfl⟩, HB2.out.belowNo⟩
  · clear hok
    generalize partsC ts js = C at HP h1
    have hc : (C == 0) = false := by simpa using h1
    go_enter Try.func19, Try.ntmps19
    go_wp2_with (first | (go_at_call 39; refine (HP.out _ ((But.refl No w).alloc _)).mono ?_; rintro e w1 ⟨⟨n, rfl⟩, hb⟩; (have HB1 := Lib.hid (((But.refl No w).alloc _).trans (But.of_below (S := No) hb))); clear hb))
    go_ret2
    exact ⟨⟨_, _, hc, rfl⟩, HB1.out.belowNo⟩
end Go.Proofs.Ytoaopjbgaehpfaa.G
end
section
/- wire's writer: bytes, and numbers laid down. -/
namespace Go.Proofs.Ytoaopjbgaehpfaa.G
open Go.RowKit
attribute [local simp, local go_sem] alloc_drewN setCell_drewN
set_option linter.unusedVariables false
set_option linter.unusedSimpArgs false
set_option maxRecDepth 100000
/-- Bytes, as numbers. -/
def byE : El Try.prog 5 26 Int where
  enc q := [.int .u8 q]
  sz := 1
  wd := 1
  zero := .int .u8 0
  hpos := by decide
  henc _ := rfl
  hone q u hu := by
    simp only [List.mem_cons, List.not_mem_nil, or_false] at hu
    rcases hu with rfl
    rfl
  hi := by kernel_rfl
  hzs := rfl
  hu := Try.underlying26
/-- What a writer may change: itself, and blocks of bytes that are not old. -/
def WS (g base : Nat) (w : World) (k : Nat) : Prop := k = g ∨ (base ≤ k ∧ ∃ cs, w.heap[k]? = some (.cells cs 5 (0, 0)))
theorem WS.back {g base : Nat} {w w' : World} (h : But (WS g base w) w w') {k : Nat} (hk : k < w.heap.size) (hs : WS g base w' k) : WS g base w k := by
  refine Classical.byContradiction fun hn => ?_
  rcases hs with rfl | ⟨hb, cs, hc⟩
  · exact hn (.inl rfl)
  · exact hn (.inr ⟨hb, cs, (h.block k hk hn).symm.trans hc⟩)
theorem WS.trans {g base : Nat} {w w' w'' : World} (h : But (WS g base w) w w') (h' : But (WS g base w') w' w'') : But (WS g base w) w w'' := h.trans_ h' (fun b hb hs => WS.back h hb hs)
theorem WS.no {g base : Nat} {w : World} {k : Nat} {cs : Array Value} {t : TypeId} (hk : k ≠ g) (hc : w.heap[k]? = some (.cells cs t (0, 0))) (ht : t ≠ 5) : ¬ WS g base w k := by
  rintro (rfl | ⟨_, cs', h⟩)
  · exact hk rfl
  · rw [hc] at h
    injection h with h
    injection h with _ h
    exact ht h
theorem WS.old {g base : Nat} {w : World} {k : Nat} (hk : k < base) (hg : base ≤ g) : ¬ WS g base w k := by
  rintro (rfl | ⟨h, _⟩) <;> omega
/-- A writer, and what it has laid down. -/
structure WrIn (g base : Nat) (l : List Int) (v : Value) (w : World) : Prop where
  cell : w.heap[g]? = some (.cells #[v] 63 (0, 0))
  own : byE.Own w base v l
theorem WrIn.alloc {g base : Nat} {l : List Int} {v : Value} {w : World} (h : WrIn g base l v w) (o : Obj) : WrIn g base l v (w.alloc o) := ⟨blkold h.cell o, h.own.alloc o⟩
theorem WrIn.ne {g base : Nat} {l : List Int} {v : Value} {w : World} (h : WrIn g base l v w) : ∀ k, v.ownBlock = some k → k ≠ g ∧ base ≤ k ∧ ∃ cs, w.heap[k]? = some (.cells cs 5 (0, 0)) := by
  intro k hk
  rcases h.own.2 with ⟨hv, _⟩ | ⟨b, cap, cur, hv, hb, hh, _⟩
  · rw [hv] at hk; cases hk
  · rw [hv] at hk
    injection hk with hk
    subst hk
    refine ⟨fun e => ?_, hb, cur, hh⟩
    have h1 := h.cell
    rw [← e] at h1
    change w.heap[b]? = _ at h1
    rw [hh] at h1
    injection h1 with h1
    injection h1 with _ h1
    exact absurd h1 (by decide)
/-- Behind an append to the row, and the store of what it gave. -/
theorem WrIn.put {g base : Nat} {l l' : List Int} {v v' : Value} {w w' : World} (h : WrIn g base l v w) (ho : byE.Own w' base v' l') (hg : w.grownBy w' v.ownBlock) : WrIn g base l' v' (w'.setCell ⟨g, 0, none⟩ v') ∧ But (WS g base w) w (w'.setCell ⟨g, 0, none⟩ v') := by
  have hc : w'.heap[g]? = some (.cells #[v] 63 (0, 0)) := (hg.block g (lt_of_block h.cell) (fun e => (h.ne g e.symm).1 rfl)).trans h.cell
  refine ⟨⟨?_, ?_⟩, ?_⟩
  · have := blkset hc 0 v'
    simpa using this
  · refine own_at ho fun k hk => Below.heap_setCell _ _ _ _ (fun e => ?_)
    rcases ho.2 with ⟨hv, _⟩ | ⟨b, cap, cur, hv, hb, hh, _⟩
    · rw [hv] at hk; cases hk
    · rw [hv] at hk
      injection hk with hk
      change b = k at hk
      subst hk
      change b = g at e
      subst e
      rw [hc] at hh
      injection hh with h1
      injection h1 with _ h1
      exact absurd h1 (by decide)
  · have h1 : But (WS g base w) w w' := (But.refl _ w).grown hg (fun k hk => .inl (.inr (h.ne k hk).2))
    exact h1.setCell (p := ⟨g, 0, none⟩) (.inl (.inl rfl)) v'
theorem WrIn.kept {g base : Nat} {l : List Int} {v : Value} {w w' : World} (h : WrIn g base l v w) (hg : w.grownBy w' v.ownBlock) : w'.heap[g]? = some (.cells #[v] 63 (0, 0)) := (hg.block g (lt_of_block h.cell) (fun e => (h.ne g e.symm).1 rfl)).trans h.cell
theorem orB (m : Int) : bits .or .u8 (m % 256) 128 = m % 128 + 128 := by
  have h : ∀ k : Fin 256, bits .or .u8 ((k.val : Nat) : Int) 128 = ((k.val : Nat) : Int) % 128 + 128 := by decide
  have h2 := h ⟨(m % 256).toNat, by omega⟩
  rw [show (((⟨(m % 256).toNat, by omega⟩ : Fin 256).val : Nat) : Int) = m % 256 from by show (((m % 256).toNat : Nat) : Int) = _; omega] at h2
  rw [h2]
  omega
/-- A number's bytes. -/
def numW (n : Int) : List Int :=
  if n < 128 then [n] else if n < 16384 then [n % 128 + 128, n / 128] else if n < 2097152 then [n % 128 + 128, n / 128 % 128 + 128, n / 16384] else [n % 128 + 128, n / 128 % 128 + 128, n / 16384 % 128 + 128, n / 2097152]
theorem numW_step {n : Int} (h1 : 127 < n) (h2 : n < 268435456) : numW n = (n % 128 + 128) :: numW (n / 128) := by
  unfold numW
  by_cases a : n < 16384
  · rw [if_neg (by omega), if_pos a, if_pos (by omega)]
  · by_cases b : n < 2097152
    · rw [if_neg (by omega), if_neg a, if_pos b, if_neg (by omega), if_pos (by omega)]
      rw [show n / 128 / 128 = n / 16384 from by omega]
    · rw [if_neg (by omega), if_neg a, if_neg b, if_neg (by omega), if_neg (by omega), if_pos (by omega)]
      rw [show n / 128 / 128 = n / 16384 from by omega, show n / 128 / 16384 = n / 2097152 from by omega]
theorem numW_len (n : Int) : 1 ≤ (numW n).length ∧ (numW n).length ≤ 4 := by
  unfold numW
  split
  · simp
  · split
    · simp
    · split <;> simp
def bytesL (ns : List Int) : List Int := ns.flatMap numW
theorem bytesL_take {ns : List Int} {i : Nat} (h : i < ns.length) : bytesL (ns.take (i + 1)) = bytesL (ns.take i) ++ numW ns[i] := by
  unfold bytesL
  rw [List.take_succ_eq_append_getElem h, List.flatMap_append]
  simp
theorem bytesL_len (ns : List Int) : (bytesL ns).length ≤ 4 * ns.length := by
  unfold bytesL
  induction ns with
  | nil => simp
  | cons a l ih =>
    rw [List.flatMap_cons, List.length_append, List.length_cons]
    have := numW_len a
    omega
/-- Numbers that come in, at places that the writer does not touch. -/
def IntsFar (w : World) (g base : Nat) (A : Option Addr) (t : List Int) : Prop := ∀ i (hi : i < t.length), ∃ ad, A = some ad ∧ w.cell? (ad.add i) = some (.int .i64 t[i]) ∧ ¬ WS g base w ad.block
theorem addr_blk (ad : Addr) (i : Nat) : (ad.add i).block = ad.block := by unfold Addr.add; split <;> rfl
theorem intsFar_old {w0 w : World} {g : Nat} {A : Option Addr} {t : List Int} (h : IntsIn w0 A t) (hb : But No w0 w) (hg : w0.heap.size ≤ g) : IntsFar w g w0.heap.size A t := fun i hi => by
  obtain ⟨ad, hA, k⟩ := h i hi
  have h2 := block_lt_of_cell k
  rw [addr_blk] at h2
  exact ⟨ad, hA, hb.cell_some k (fun c => c), WS.old h2 hg⟩
theorem intsFar_new (w : World) (g base : Nat) (ns : List Int) (b : Nat) (hb : b = w.heap.size) (hg : g < w.heap.size) : IntsFar (w.alloc (.cells (ns.map (Value.int .i64)).toArray 3)) g base (some ⟨b, 0, none⟩) ns := fun i hi => by
  obtain ⟨ad, hA, k⟩ := intsIn_new w ns 3 b hb i hi
  refine ⟨ad, hA, k, ?_⟩
  injection hA with hA
  subst hA hb
  exact WS.no (by show w.heap.size ≠ g; omega) (heap_alloc_new w _) (by decide)
def WNums (w : World) (g base : Nat) (l : List Int) (ns : List Int) (gk : Nat) (v8 : Value) (wr : World) : Prop :=
  ∃ i : Nat, gk = ns.length - i ∧ i ≤ ns.length ∧ v8 = .int .i64 (i : Int) ∧ But (WS g base w) w wr ∧ ∃ v, WrIn g base (l ++ bytesL (ns.take i)) v wr
def WNum (w : World) (g base : Nat) (L : List Int) (gk : Nat) (v5 : Value) (wr : World) : Prop :=
  ∃ n : Int, ∃ l : List Int, gk = n.toNat ∧ v5 = .int .i64 n ∧ 0 ≤ n ∧ n < 268435456 ∧ L = l ++ numW n ∧ But (WS g base w) w wr ∧ ∃ v, WrIn g base l v wr
set_option maxHeartbeats 4000000 in
theorem numbers0 (g base : Nat) (l : List Int) (v : Value) (A : Option Addr) (c : Nat) (ns : List Int) (w : World) (hT : IntsFar w g base A ns) (hl : l.length + 4 * ns.length ≤ 70000000000000) (hn : ∀ n ∈ ns, 0 ≤ n ∧ n < 268435456) (hW : WrIn g base l v w) (hb0 : base ≤ w.heap.size) :
    Calls Try.prog 30 #[.pointer (some ⟨g, 0, none⟩), .slice A ns.length c] w fun e w' => e = .returned (.tuple #[]) ∧ But (WS g base w) w w' ∧ ∃ v', WrIn g base (l ++ bytesL ns) v' w' := by
  have HT := Lib.hid hT
  have HN := Lib.hid hn
  have HW := Lib.hid hW
  clear hT hn hW
  go_enter Try.func30, Try.ntmps30
  go_wp2_with fail
  go_loopg [8] ns.length (fun gk v8 wr => WNums w g base l ns gk v8 wr)
  case atStart => exact ⟨0, rfl, Nat.zero_le _, rfl, But.refl _ _, v, by simpa [bytesL] using HW.out⟩
  case round =>
    obtain ⟨i, hgk, hi, rfl, hb, v1, hW1⟩ := hrel
    have HGK := Lib.hid hgk
    have HBt := Lib.hid hb
    have HW1 := Lib.hid hW1
    clear hgk hb hW1
    by_cases hlt : i < ns.length
    · obtain ⟨ad, hA, k1, hna⟩ := HT.out i hlt
      cases hA
      have hn := HN.out _ (List.getElem_mem hlt)
      have HTK := Lib.hid (bytesL_take hlt)
      obtain ⟨n, hnn⟩ : ∃ n, ns[i] = n := ⟨_, rfl⟩
      rw [hnn] at k1 hn
      have HTK2 := Lib.hid (show l ++ bytesL (ns.take (i + 1)) = (l ++ bytesL (ns.take i)) ++ numW n from by rw [HTK.out, hnn, List.append_assoc])
      have hlen : (l ++ bytesL (ns.take i)).length + 4 ≤ 70000000000000 := by
        have := bytesL_len (ns.take i)
        rw [List.length_take_of_le hi] at this
        rw [List.length_append]
        omega
      have hlt' : (i : Int) < (ns.length : Int) := by omega
      have dl : decide ((i : Int) < (ns.length : Int)) = true := decide_eq_true hlt'
      have k1' := HBt.out.cell_some k1 (by rw [show (ad.add i).block = ad.block from by unfold Addr.add; split <;> rfl]; exact hna)
      clear hnn HTK k1 hna
      obtain ⟨L, hL⟩ : ∃ L, l ++ bytesL (ns.take i) = L := ⟨_, rfl⟩
      rw [hL] at HW1 HTK2 hlen
      clear hL
      go_wp2_with fail
      go_loopg [5] n.toNat (fun gk v5 wr' => WNum w g base (L ++ numW n) gk v5 wr')
      case atStart => exact ⟨n, L, rfl, rfl, hn.1, hn.2, rfl, HBt.out, v1, HW1.out⟩
      case round =>
        obtain ⟨m, l2, hgk2, rfl, hm1, hm2, hL, hb2, v2, hW2⟩ := hrel
        have HGK2 := Lib.hid hgk2
        have HB2 := Lib.hid hb2
        have HW2 := Lib.hid hW2
        have q0 : wr.cell? ⟨g, 0, none⟩ = some v2 := blkcell hW2.cell 0 (by simp)
        have qf : wr.frozen? ⟨g, 0, none⟩ = false := blkfree hW2.cell 0
        have hl2 : l2.length + 4 ≤ 70000000000016 := by
          have h1 := congrArg List.length hL
          rw [List.length_append, List.length_append] at h1
          have := numW_len m
          have := numW_len n
          omega
        have HL := Lib.hid hL
        have hws := Nat.le_trans hb0 hb2.size
        clear hgk2 hb2 hW2 hL
        by_cases c1 : 127 < m
        · have d1 : decide (127 < m) = true := decide_eq_true c1
          have hor := orB m
          have HNS := Lib.hid (numW_step c1 hm2)
          go_wp2_with (at_builtin; go_loud (refine byE.append1L rfl _ _ rfl rfl base v2 l2 rfl (HW2.out.alloc _).own wr.heap.size (m % 128 + 128) #[.int .u8 (m % 128 + 128)] rfl rfl ?hrow (by show (l2.length + 1) * (1 + 1) ≤ _; omega) (by simp; omega) ?_); (case hrow => exact heap_alloc_new wr _); intro g2 c2 w2 hown hgrow _; (have q0' : w2.cell? ⟨g, 0, none⟩ = some v2 := blkcell ((HW2.out.alloc _).kept hgrow) 0 (by simp)); (have qf' : w2.frozen? ⟨g, 0, none⟩ = false := blkfree ((HW2.out.alloc _).kept hgrow) 0); (have HP := Lib.hid ((HW2.out.alloc _).put hown hgrow)); (have HBA := Lib.hid (HB2.out.alloc (.cells #[.int .u8 (m % 128 + 128)] 5))); clear hown hgrow)
          go_roundg (m / 128).toNat
          case measure => rw [HGK2.out]; omega
          case rel => exact ⟨m / 128, l2 ++ [m % 128 + 128], rfl, rfl, by omega, by omega, by rw [HL.out, HNS.out, List.append_assoc]; rfl, WS.trans HBA.out HP.out.2, _, HP.out.1⟩
        · have d1 : decide (127 < m) = false := decide_eq_false c1
          have hm256 : m % 256 = m := by omega
          have HNS := Lib.hid (show numW m = [m] from if_pos (by omega))
          go_wp2_with (at_builtin; go_loud (refine byE.append1L rfl _ _ rfl rfl base v2 l2 rfl (HW2.out.alloc _).own wr.heap.size m #[.int .u8 m] rfl rfl ?hrow (by show (l2.length + 1) * (1 + 1) ≤ _; omega) (by simp; omega) ?_); (case hrow => exact heap_alloc_new wr _); intro g2 c2 w2 hown hgrow _; (have q0' : w2.cell? ⟨g, 0, none⟩ = some v2 := blkcell ((HW2.out.alloc _).kept hgrow) 0 (by simp)); (have qf' : w2.frozen? ⟨g, 0, none⟩ = false := blkfree ((HW2.out.alloc _).kept hgrow) 0); (have HP := Lib.hid ((HW2.out.alloc _).put hown hgrow)); (have HBA := Lib.hid (HB2.out.alloc (.cells #[.int .u8 m] 5))); clear hown hgrow)
          go_roundg (ns.length - (i + 1))
          case measure => rw [HGK.out]; omega
          case rel => exact ⟨i + 1, rfl, by omega, by go_num, WS.trans HBA.out HP.out.2, _, by rw [HTK2.out, HL.out, HNS.out]; exact HP.out.1⟩
    · obtain rfl : i = ns.length := by omega
      have hlt' : ¬ (ns.length : Int) < (ns.length : Int) := by omega
      go_wp2_with fail
      go_end0
      exact ⟨rfl, HBt.out, v1, by have := HW1.out; rwa [List.take_length] at this⟩
end Go.Proofs.Ytoaopjbgaehpfaa.G
end
