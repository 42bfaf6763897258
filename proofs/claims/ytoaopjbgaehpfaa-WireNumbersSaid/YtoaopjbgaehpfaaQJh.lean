/- Texts of this claim, joined: words and laws that the others use. -/
import Derived.Test.YtoaopjbgaehpfaaQJg
import Derived.Maps.OwnSet
section
/- plan.texts, and what a plan is that comes in. -/
namespace Go.Proofs.Ytoaopjbgaehpfaa.G
open Go.RowKit
attribute [local simp, local go_sem] alloc_drewN setCell_drewN
set_option linter.unusedVariables false
set_option linter.unusedSimpArgs false
set_option maxRecDepth 100000
/-- Go's order of texts: at most. -/
def leB (x y : ByteArray) : Bool := Op.bytesLess x.toList y.toList || x.toList == y.toList
def txtB (ts : List ByteArray) (k : Nat) : Bool := (k == 0 || !(leB (ts.getD k .empty) (ts.getD (k - 1) .empty))) && decide ((ts.getD k .empty).size ≤ 4096)
def manyB (nt nj : Nat) : Bool := decide (nj ≤ 256) && decide (nt ≤ 65536)
def risesB (ts : List ByteArray) : Bool := (List.range ts.length).all (txtB ts)
def textsC (ts : List ByteArray) (nj : Nat) : Int := if manyB ts.length nj = true then (if risesB ts = true then 0 else 170) else 175
def TextsAt (w : World) (g : Nat) (At Aj : Option Addr) (nt ct nj cj : Nat) (ts : List ByteArray) (gk : Nat) (v : Value) (wr : World) : Prop := ∃ i : Nat, gk = ts.length - i ∧ i ≤ ts.length ∧ v = .int .i64 (i : Int) ∧ wr = w.alloc (.cells #[.slice At nt ct, .slice Aj nj cj] 25) ∧ (List.range i).all (txtB ts) = true
set_option maxHeartbeats 4000000 in
theorem texts0 (At : Option Addr) (ct : Nat) (ts : List ByteArray) (Aj : Option Addr) (nj cj : Nat) (w : World) (hT : StrsIn w At ts) (htl : ts.length ≤ 9223372036854775807) (hjl : nj ≤ 9223372036854775807) (hts : ∀ s ∈ ts, s.size ≤ 9223372036854775807) :
    Calls Try.prog 52 #[.agg #[.slice At ts.length ct, .slice Aj nj cj]] w fun e w' => e = .returned (.int .i64 (textsC ts nj)) ∧ Below w.heap.size w w' := by
  obtain ⟨R, hR⟩ : ∃ R, textsC ts nj = R := ⟨_, rfl⟩
  rw [hR]
  have HR := Lib.hid hR
  have HB0 := Lib.hid (show ∀ n, Below w.heap.size w ((w.alloc (.cells #[.slice At ts.length ct, .slice Aj nj cj] 25)).drewN n) from fun n => (((But.refl No w).alloc _).drewN n).belowNo)
  have HB := Lib.hid (show Below w.heap.size w (w.alloc (.cells #[.slice At ts.length ct, .slice Aj nj cj] 25)) from ((But.refl No w).alloc _).belowNo)
  by_cases c1 : 256 < nj
  · have d1 : decide ((256 : Int) < (nj : Int)) = true := decide_eq_true (by omega)
    have d1' : (256 : Int) < (nj : Int) := by omega
    have E := Lib.hid (hR.symm.trans (show textsC ts nj = 175 from if_neg (by unfold manyB; rw [decide_eq_false (by omega)]; simp)))
    clear hR hT hts
    go_enter Try.func52, Try.ntmps52
    go_wp2_with fail
    go_ret
    exact ⟨by rw [E.out]; rfl, HB.out⟩
  have d1 : decide ((256 : Int) < (nj : Int)) = false := decide_eq_false (by omega)
  have d1' : ¬ (256 : Int) < (nj : Int) := by omega
  by_cases c2 : 65536 < ts.length
  · have d2 : decide ((65536 : Int) < (ts.length : Int)) = true := decide_eq_true (by omega)
    have d2' : (65536 : Int) < (ts.length : Int) := by omega
    have E := Lib.hid (hR.symm.trans (show textsC ts nj = 175 from if_neg (by unfold manyB; rw [decide_eq_false (show ¬ ts.length ≤ 65536 by omega)]; simp)))
    clear hR hT hts
    go_enter Try.func52, Try.ntmps52
    go_wp2_with fail
    go_ret
    exact ⟨by rw [E.out]; rfl, HB.out⟩
  have d2 : decide ((65536 : Int) < (ts.length : Int)) = false := decide_eq_false (by omega)
  have d2' : ¬ (65536 : Int) < (ts.length : Int) := by omega
  have hmany : textsC ts nj = if risesB ts = true then 0 else 170 := if_pos (by unfold manyB; rw [decide_eq_true (by omega), decide_eq_true (by omega)]; rfl)
  have HM := Lib.hid (hR.symm.trans hmany)
  have HT := Lib.hid hT
  have HS := Lib.hid hts
  have hbad : ∀ i, i < ts.length → txtB ts i = false → (if risesB ts = true then (0 : Int) else 170) = 170 := fun i hi hb => by
    rw [if_neg]
    intro ha
    have := List.all_eq_true.1 ha i (List.mem_range.2 hi)
    rw [hb] at this
    cases this
  have HBAD := Lib.hid hbad
  clear hT hbad hR hmany hts HR
  go_enter Try.func52, Try.ntmps52
  go_wp2_with fail
  go_loopg [18] ts.length (fun gk v wr => TextsAt w w.heap.size At Aj ts.length ct nj cj ts gk v wr)
  case atStart => exact ⟨0, rfl, Nat.zero_le _, rfl, rfl, rfl⟩
  case round =>
    obtain ⟨i, hgk, hi, rfl, rfl, hall⟩ := hrel
    have HGK := Lib.hid hgk
    have HA := Lib.hid hall
    clear hgk hall
    by_cases hlt : i < ts.length
    · obtain ⟨ad, hA, k1⟩ := HT.out i hlt
      cases hA
      obtain ⟨p, hp⟩ : ∃ p, ts[i] = p := ⟨_, rfl⟩
      have hps : p.size ≤ 9223372036854775807 := hp ▸ HS.out _ (List.getElem_mem hlt)
      have hpd : ts.getD i .empty = p := by rw [List.getD_eq_getElem?_getD, List.getElem?_eq_getElem hlt, hp]; rfl
      rw [hp] at k1
      have hlt' : (i : Int) < (ts.length : Int) := by omega
      have dl : decide ((i : Int) < (ts.length : Int)) = true := decide_eq_true hlt'
      have HP := Lib.hid hpd
      have hnext : txtB ts i = true → (List.range (i + 1)).all (txtB ts) = true := fun hb => by rw [List.range_succ, List.all_append, HA.out]; simpa using hb
      have HNX := Lib.hid hnext
      have hBq : txtB ts i = ((i == 0 || !(leB p (ts.getD (i - 1) .empty))) && decide (p.size ≤ 4096)) := by unfold txtB; rw [hpd]
      have HBq := Lib.hid hBq
      have k1a : (w.alloc (.cells #[.slice (some ad) ts.length ct, .slice Aj nj cj] 25)).cell? (ad.add i) = some (.string p) := ((But.refl No w).alloc _).cell_some k1 (fun c => c)
      clear hp hpd hnext hBq
      obtain ⟨b2, hb2⟩ : ∃ b, decide (p.size ≤ 4096) = b := ⟨_, rfl⟩
      have hb2' : decide ((4096 : Int) < (p.size : Int)) = !b2 := by
        rw [← hb2]
        by_cases h : p.size ≤ 4096
        · rw [decide_eq_false (by omega), decide_eq_true h]; rfl
        · rw [decide_eq_true (by omega), decide_eq_false h]; rfl
      have HB2 := Lib.hid hb2
      by_cases c3 : i = 0
      · have d3 : decide ((0 : Int) < (i : Int)) = false := decide_eq_false (by omega)
        have d3' : ¬ (0 : Int) < (i : Int) := by omega
        cases b2 with
        | false =>
          have d4 : (4096 : Int) < (p.size : Int) := by have := of_decide_eq_true hb2'; exact this
          have E := Lib.hid (HM.out.trans <| HBAD.out i hlt (by rw [HBq.out, HB2.out, Bool.and_false]))
          clear hb2 hb2' c3
          go_wp2_with fail
          go_ret
          exact ⟨by rw [E.out]; rfl, HB.out⟩
        | true =>
          have d4 : ¬ (4096 : Int) < (p.size : Int) := by have := of_decide_eq_false hb2'; exact this
          have E := Lib.hid (HNX.out (by rw [HBq.out, HB2.out, c3]; rfl))
          clear hb2 hb2' c3
          go_wp2_with fail
          go_roundg (ts.length - (i + 1))
          case measure => rw [HGK.out]; omega
          case rel => exact ⟨i + 1, rfl, by omega, by go_num, rfl, E.out⟩
      obtain ⟨m, rfl⟩ : ∃ m, i = m + 1 := ⟨i - 1, by omega⟩
      obtain ⟨ad2, hA2, k2⟩ := HT.out m (by omega)
      cases hA2
      obtain ⟨q, hq⟩ : ∃ q, ts[m] = q := ⟨_, rfl⟩
      have hqd : ts.getD m .empty = q := by rw [List.getD_eq_getElem?_getD, List.getElem?_eq_getElem (by omega), hq]; rfl
      rw [hq] at k2
      have k2a : (w.alloc (.cells #[.slice (some ad) ts.length ct, .slice Aj nj cj] 25)).cell? (ad.add m) = some (.string q) := ((But.refl No w).alloc _).cell_some k2 (fun c => c)
      obtain ⟨b1, hb1⟩ : ∃ b, leB p q = b := ⟨_, rfl⟩
      have HBr := Lib.hid (show txtB ts (m + 1) = (!b1 && b2) from by rw [HBq.out, HB2.out, Nat.add_sub_cancel, hqd, hb1]; rfl)
      unfold leB at hb1
      have k1b : (w.alloc (.cells #[.slice (some ad) ts.length ct, .slice Aj nj cj] 25)).cell? ⟨ad.block, ad.off + (m + 1), none⟩ = some (.string p) := by
        unfold Addr.add at k1a
        rw [if_neg (by omega)] at k1a
        exact k1a
      have d3 : decide ((0 : Int) < ((m + 1 : Nat) : Int)) = true := decide_eq_true (by omega)
      have d3' : (0 : Int) < ((m : Int) + 1) := by omega
      clear hq hqd c3
      cases b1 with
      | true =>
        have E := Lib.hid (HM.out.trans <| HBAD.out (m + 1) hlt (by rw [HBr.out]; rfl))
        clear hb2 hb2'
        go_wp2_with fail
        go_ret
        exact ⟨by rw [E.out]; rfl, HB.out⟩
      | false =>
        cases b2 with
        | false =>
          have d4 : (4096 : Int) < (p.size : Int) := by have := of_decide_eq_true hb2'; exact this
          have E := Lib.hid (HM.out.trans <| HBAD.out (m + 1) hlt (by rw [HBr.out]; rfl))
          clear hb2 hb2'
          go_wp2_with fail
          go_ret
          exact ⟨by rw [E.out]; rfl, HB.out⟩
        | true =>
          have d4 : ¬ (4096 : Int) < (p.size : Int) := by have := of_decide_eq_false hb2'; exact this
          have E := Lib.hid (HNX.out (by rw [HBr.out]; rfl))
          clear hb2 hb2'
          go_wp2_with fail
          go_roundg (ts.length - (m + 1 + 1))
          case measure => rw [HGK.out]; omega
          case rel => exact ⟨m + 1 + 1, rfl, by omega, by go_num, rfl, E.out⟩
    · obtain rfl : i = ts.length := by omega
      have hlt' : ¬ (ts.length : Int) < (ts.length : Int) := by omega
      have E := Lib.hid (HM.out.trans <| show (if risesB ts = true then (0 : Int) else 170) = 0 from if_pos HA.out)
      go_wp2_with fail
      go_ret
      exact ⟨by rw [E.out]; rfl, HB.out⟩
end Go.Proofs.Ytoaopjbgaehpfaa.G
end
section
/- plan.parts: all jobs looked at. -/
namespace Go.Proofs.Ytoaopjbgaehpfaa.G
open Go.RowKit
attribute [local simp, local go_sem] alloc_drewN setCell_drewN
set_option linter.unusedVariables false
set_option linter.unusedSimpArgs false
set_option maxRecDepth 100000
def fourF : Array Value := #[.func (.func 64) #[] #[], .func (.func 65) #[] #[], .func (.func 66) #[] #[], .func (.func 67) #[] #[]]
theorem looks0 (w : World) :
    Calls Try.prog 53 #[] w fun e w' => e = .returned (.slice (some ⟨w.heap.size, 0, none⟩) 4 4) ∧ w' = w.alloc (.cells fourF 97) := by
  go_enter Try.func53, Try.ntmps53
  go_wp2_with fail
  go_ret
  exact ⟨rfl, rfl⟩
/-- A job that comes in. -/
structure JobP where
  one : JobN
  allow : Bool
  rules : List (List (Int × Int) × Int)
  vars : List (Int × Int)
  preds : List Int
/-- It lies at a place. -/
structure JobIn (w : World) (a : Addr) (j : JobP) (Ar Av Ap : Option Addr) (cr cv cp : Nat) : Prop where
  c0 : w.cell? a = some (.int .i64 j.one.name)
  c1 : w.cell? ⟨a.block, a.off + 1, none⟩ = some (.int .i64 j.one.run)
  c2 : w.cell? ⟨a.block, a.off + 2, none⟩ = some (.int .i64 j.one.stage)
  c3 : w.cell? ⟨a.block, a.off + 3, none⟩ = some (.int .i64 j.one.when_)
  c4 : w.cell? ⟨a.block, a.off + 4, none⟩ = some (.bool j.allow)
  c5 : w.cell? ⟨a.block, a.off + 5, none⟩ = some (.int .i64 j.one.weight)
  c6 : w.cell? ⟨a.block, a.off + 6, none⟩ = some (.slice Ar j.rules.length cr)
  c7 : w.cell? ⟨a.block, a.off + 7, none⟩ = some (.slice Av j.vars.length cv)
  c8 : w.cell? ⟨a.block, a.off + 8, none⟩ = some (.slice Ap j.preds.length cp)
  rules : RulesIn w Ar j.rules
  vars : PairsIn w Av j.vars
  preds : IntsIn w Ap j.preds
def JobsIn (w : World) (A : Option Addr) (js : List JobP) : Prop := ∀ i (hi : i < js.length), ∃ ad, A = some ad ∧ ∃ Ar Av Ap cr cv cp, JobIn w (ad.add (i * 9)) js[i] Ar Av Ap cr cv cp
/-- Its lengths are those of slices (and its rules' codes fit into memory). -/
structure JobFits (j : JobP) : Prop where
  name : (Lit.int .i64 j.one.name).wf = true
  rules : j.rules.length ≤ 9223372036854775807
  codes : ∀ r ∈ j.rules, r.1.length * 25 ≤ 140737488355328
  vars : j.vars.length ≤ 9223372036854775807
  preds : j.preds.length ≤ 9223372036854775807
def jobC (ts : List ByteArray) (seen : List Int) (no : Nat) (j : JobP) : Int :=
  if fieldsB ts.length seen j.one = true then (if rulesB ts j.rules = true then (if varsB ts j.vars = true then (if predsB no j.preds = true then 0 else 174) else 173) else 172) else 171
def jobsC (ts : List ByteArray) : List Int → Nat → List JobP → Int
  | _, _, [] => 0
  | seen, no, j :: l => if jobC ts seen no j = 0 then jobsC ts (j.one.name :: seen) (no + 1) l else jobC ts seen no j
def partsC (ts : List ByteArray) (js : List JobP) : Int := if textsC ts js.length = 0 then jobsC ts [] 0 js else textsC ts js.length
/-- The looker between two jobs, its cells as said. -/
structure LookIn (w : World) (g b r : Nat) (cs : Array Value) (seen : List Int) (wr : World) : Prop where
  but : But No w wr
  cells : wr.heap[g]? = some (.cells cs 94 (0, 0))
  row : wr.heap[r]? = some (.cells fourF 97 (0, 0))
  names : NamesM wr b seen
structure LookAt (w : World) (g b r : Nat) (At Aj : Option Addr) (nt ct nj cj : Nat) (seen : List Int) (wr : World) : Prop where
  but : But No w wr
  cells : ∃ c2 c3 c4 c5 c6 c7 c8 c9 c10 c11 : Value, wr.heap[g]? = some (.cells #[.slice At nt ct, .slice Aj nj cj, c2, c3, c4, c5, c6, c7, c8, c9, c10, c11, .map (some b)] 94 (0, 0))
  row : wr.heap[r]? = some (.cells fourF 97 (0, 0))
  names : NamesM wr b seen
theorem NamesM.keep {w w' : World} {b : Nat} {seen : List Int} (h : NamesM w b seen) (hb : w'.heap[b]? = w.heap[b]?) : NamesM w' b seen := by
  obtain ⟨D, ⟨es, clock, h1, h2⟩, h3⟩ := h
  exact ⟨D, ⟨es, clock, hb.trans h1, h2⟩, h3⟩
theorem NamesM.lt {w : World} {b : Nat} {seen : List Int} (h : NamesM w b seen) : b < w.heap.size := by
  obtain ⟨D, h1, _⟩ := h
  exact h1.lt
def jobCells (At Aj : Option Addr) (nt ct nj cj b : Nat) (no : Int) (j : JobP) (Ar Av Ap : Option Addr) (cr cv cp : Nat) : Array Value :=
  #[.slice At nt ct, .slice Aj nj cj, .int .i64 no, .int .i64 j.one.name, .int .i64 j.one.run, .int .i64 j.one.stage, .int .i64 j.one.when_, .bool j.allow, .int .i64 j.one.weight, .slice Ar j.rules.length cr, .slice Av j.vars.length cv, .slice Ap j.preds.length cp, .map (some b)]
theorem LookAt.laid {w : World} {g b r : Nat} {At Aj : Option Addr} {nt ct nj cj : Nat} {seen : List Int} {wr : World} (h : LookAt w g b r At Aj nt ct nj cj seen wr) (hwg : ¬ g < w.heap.size) (hgr : ¬ g = r) (hgb : ¬ g = b) (no : Int) (j : JobP) (Ar Av Ap : Option Addr) (cr cv cp : Nat) (o : Obj) :
    LookIn w g b r (jobCells At Aj nt ct nj cj b no j Ar Av Ap cr cv cp) seen (((((((((((((wr.setCell ⟨g, 2, none⟩ (.int .i64 no)).setCell ⟨g, 3, none⟩ (.int .i64 j.one.name)).setCell ⟨g, 4, none⟩ (.int .i64 j.one.run)).setCell ⟨g, 5, none⟩ (.int .i64 j.one.stage)).setCell ⟨g, 6, none⟩ (.int .i64 j.one.when_)).setCell ⟨g, 7, none⟩ (.bool j.allow)).setCell ⟨g, 8, none⟩ (.int .i64 j.one.weight)).setCell ⟨g, 9, none⟩ (.slice Ar j.rules.length cr)).setCell ⟨g, 10, none⟩ (.slice Av j.vars.length cv)).setCell ⟨g, 11, none⟩ (.slice Ap j.preds.length cp)).alloc o).drew)) := by
  obtain ⟨c2, c3, c4, c5, c6, c7, c8, c9, c10, c11, hc⟩ := h.cells
  have hg2 : No g ∨ w.heap.size ≤ g := .inr (by omega)
  have hrl := lt_of_block h.row
  have hbl := h.names.lt
  have hdr : ∀ w : World, w.drew.heap = w.heap := fun _ => rfl
  have hgr' : r ≠ g := fun e => hgr e.symm
  obtain ⟨D, m1, hD⟩ := h.names
  have hb' : b ≠ g := fun e => hgb e.symm
  have a1 := h.but
  have r1 := h.row
  have b1 := hc
  have a2 := a1.setCell (p := ⟨g, 2, none⟩) hg2 (.int .i64 no)
  have r2 := blkfar r1 (p := ⟨g, 2, none⟩) hgr' (.int .i64 no)
  have m2 := m1.setCell (a := ⟨g, 2, none⟩) hb' (.int .i64 no)
  have b2 := blkset b1 2 (.int .i64 no)
  have a3 := a2.setCell (p := ⟨g, 3, none⟩) hg2 (.int .i64 j.one.name)
  have r3 := blkfar r2 (p := ⟨g, 3, none⟩) hgr' (.int .i64 j.one.name)
  have m3 := m2.setCell (a := ⟨g, 3, none⟩) hb' (.int .i64 j.one.name)
  have b3 := blkset b2 3 (.int .i64 j.one.name)
  have a4 := a3.setCell (p := ⟨g, 4, none⟩) hg2 (.int .i64 j.one.run)
  have r4 := blkfar r3 (p := ⟨g, 4, none⟩) hgr' (.int .i64 j.one.run)
  have m4 := m3.setCell (a := ⟨g, 4, none⟩) hb' (.int .i64 j.one.run)
  have b4 := blkset b3 4 (.int .i64 j.one.run)
  have a5 := a4.setCell (p := ⟨g, 5, none⟩) hg2 (.int .i64 j.one.stage)
  have r5 := blkfar r4 (p := ⟨g, 5, none⟩) hgr' (.int .i64 j.one.stage)
  have m5 := m4.setCell (a := ⟨g, 5, none⟩) hb' (.int .i64 j.one.stage)
  have b5 := blkset b4 5 (.int .i64 j.one.stage)
  have a6 := a5.setCell (p := ⟨g, 6, none⟩) hg2 (.int .i64 j.one.when_)
  have r6 := blkfar r5 (p := ⟨g, 6, none⟩) hgr' (.int .i64 j.one.when_)
  have m6 := m5.setCell (a := ⟨g, 6, none⟩) hb' (.int .i64 j.one.when_)
  have b6 := blkset b5 6 (.int .i64 j.one.when_)
  have a7 := a6.setCell (p := ⟨g, 7, none⟩) hg2 (.bool j.allow)
  have r7 := blkfar r6 (p := ⟨g, 7, none⟩) hgr' (.bool j.allow)
  have m7 := m6.setCell (a := ⟨g, 7, none⟩) hb' (.bool j.allow)
  have b7 := blkset b6 7 (.bool j.allow)
  have a8 := a7.setCell (p := ⟨g, 8, none⟩) hg2 (.int .i64 j.one.weight)
  have r8 := blkfar r7 (p := ⟨g, 8, none⟩) hgr' (.int .i64 j.one.weight)
  have m8 := m7.setCell (a := ⟨g, 8, none⟩) hb' (.int .i64 j.one.weight)
  have b8 := blkset b7 8 (.int .i64 j.one.weight)
  have a9 := a8.setCell (p := ⟨g, 9, none⟩) hg2 (.slice Ar j.rules.length cr)
  have r9 := blkfar r8 (p := ⟨g, 9, none⟩) hgr' (.slice Ar j.rules.length cr)
  have m9 := m8.setCell (a := ⟨g, 9, none⟩) hb' (.slice Ar j.rules.length cr)
  have b9 := blkset b8 9 (.slice Ar j.rules.length cr)
  have a10 := a9.setCell (p := ⟨g, 10, none⟩) hg2 (.slice Av j.vars.length cv)
  have r10 := blkfar r9 (p := ⟨g, 10, none⟩) hgr' (.slice Av j.vars.length cv)
  have m10 := m9.setCell (a := ⟨g, 10, none⟩) hb' (.slice Av j.vars.length cv)
  have b10 := blkset b9 10 (.slice Av j.vars.length cv)
  have a11 := a10.setCell (p := ⟨g, 11, none⟩) hg2 (.slice Ap j.preds.length cp)
  have r11 := blkfar r10 (p := ⟨g, 11, none⟩) hgr' (.slice Ap j.preds.length cp)
  have m11 := m10.setCell (a := ⟨g, 11, none⟩) hb' (.slice Ap j.preds.length cp)
  have b11 := blkset b10 11 (.slice Ap j.preds.length cp)
  simp only [List.setIfInBounds_toArray, List.set_cons_zero, List.set_cons_succ] at b11
  exact ⟨(a11.alloc o).drew, by rw [hdr]; exact blkold b11 o, by rw [hdr]; exact blkold r11 o, ⟨D, (m11.alloc o).drew, hD⟩⟩
theorem LookIn.at {w : World} {g b r : Nat} {At Aj : Option Addr} {nt ct nj cj : Nat} {no : Int} {j : JobP} {Ar Av Ap : Option Addr} {cr cv cp : Nat} {seen : List Int} {wr : World} (h : LookIn w g b r (jobCells At Aj nt ct nj cj b no j Ar Av Ap cr cv cp) seen wr) : LookAt w g b r At Aj nt ct nj cj seen wr :=
  ⟨h.but, ⟨_, _, _, _, _, _, _, _, _, _, h.cells⟩, h.row, h.names⟩
theorem LookIn.step {w : World} {g b r : Nat} {cs : Array Value} {seen : List Int} {wr wr' : World} (h : LookIn w g b r cs seen wr) (hb : Below wr.heap.size wr wr') : LookIn w g b r cs seen wr' :=
  ⟨h.but.trans (But.of_below hb), (hb.block g (lt_of_block h.cells)).trans h.cells, (hb.block r (lt_of_block h.row)).trans h.row, h.names.keep (hb.block b h.names.lt)⟩
theorem IntsIn.but {w w' : World} {A : Option Addr} {t : List Int} (h : IntsIn w A t) (hb : But No w w') : IntsIn w' A t := fun i hi => by
  obtain ⟨ad, hA, k⟩ := h i hi
  exact ⟨ad, hA, hb.cell_some k (fun c => c)⟩
theorem RulesIn.but {w w' : World} {A : Option Addr} {t : List (List (Int × Int) × Int)} (h : RulesIn w A t) (hb : But No w w') : RulesIn w' A t := fun i hi => by
  obtain ⟨ad, hA, A', c', k1, k2, k3⟩ := h i hi
  exact ⟨ad, hA, A', c', hb.cell_some k1 (fun c => c), hb.cell_some k2 (fun c => c), k3.but hb⟩
/-- The four looks. -/
theorem look1 {w : World} {g b r : Nat} {At Aj : Option Addr} {nt ct nj cj : Nat} {no : Int} {j : JobP} {Ar Av Ap : Option Addr} {cr cv cp : Nat} {seen : List Int} {wr : World} (h : LookIn w g b r (jobCells At Aj nt ct nj cj b no j Ar Av Ap cr cv cp) seen wr)
    (hwb : ¬ b < w.heap.size) (hgb : ¬ g = b) (hbr : ¬ b = r) (hs : seen.length ≤ 256) (hf : JobFits j) (c : Int) (hc : (if fieldsB nt seen j.one = true then (0 : Int) else 171) = c) :
    Calls Try.prog 64 #[.pointer (some ⟨g, 0, none⟩)] wr fun e w' => e = .returned (.int .i64 c) ∧ LookIn w g b r (jobCells At Aj nt ct nj cj b no j Ar Av Ap cr cv cp) (j.one.name :: seen) w' := by
  have k := fun i hi => blkcell h.cells i hi
  refine (fields0 g b At nt ct seen j.one j.allow Ar Av Ap j.rules.length cr j.vars.length cv j.preds.length cp wr (k 0 (by simp [jobCells])) (k 3 (by simp [jobCells])) (k 4 (by simp [jobCells])) (k 5 (by simp [jobCells])) (k 6 (by simp [jobCells])) (k 7 (by simp [jobCells])) (k 8 (by simp [jobCells])) (k 9 (by simp [jobCells])) (k 10 (by simp [jobCells])) (k 11 (by simp [jobCells])) (k 12 (by simp [jobCells])) hgb h.names hs hf.name).mono ?_
  rintro e w' ⟨rfl, hb, hn⟩
  refine ⟨by rw [hc], ⟨h.but.trans_ hb (fun k hk e => hwb (e ▸ hk)), (hb.block g (lt_of_block h.cells) hgb).trans h.cells, (hb.block r (lt_of_block h.row) (fun e => hbr e.symm)).trans h.row, hn⟩⟩
theorem look2 {w : World} {g b r : Nat} {At Aj : Option Addr} {ts : List ByteArray} {ct nj cj : Nat} {no : Int} {j : JobP} {Ar Av Ap : Option Addr} {cr cv cp : Nat} {seen : List Int} {wr : World} (h : LookIn w g b r (jobCells At Aj ts.length ct nj cj b no j Ar Av Ap cr cv cp) seen wr)
    (hT : StrsIn w At ts) (hR : RulesIn w Ar j.rules) (hts : ∀ s ∈ ts, s.size ≤ 9223372036854775807) (htl : ts.length ≤ 9223372036854775807) (hf : JobFits j) (c : Int) (hc : (if rulesB ts j.rules = true then (0 : Int) else 172) = c) :
    Calls Try.prog 65 #[.pointer (some ⟨g, 0, none⟩)] wr fun e w' => e = .returned (.int .i64 c) ∧ LookIn w g b r (jobCells At Aj ts.length ct nj cj b no j Ar Av Ap cr cv cp) seen w' := by
  have k := fun i hi => blkcell h.cells i hi
  refine (rules0 g At ct ts Ar cr j.rules wr (k 0 (by simp [jobCells])) (k 9 (by simp [jobCells])) (hT.but h.but) (hR.but h.but) hts htl hf.rules hf.codes).mono ?_
  rintro e w' ⟨rfl, hb⟩
  exact ⟨by rw [hc], h.step hb⟩
theorem look3 {w : World} {g b r : Nat} {At Aj : Option Addr} {ts : List ByteArray} {ct nj cj : Nat} {no : Int} {j : JobP} {Ar Av Ap : Option Addr} {cr cv cp : Nat} {seen : List Int} {wr : World} (h : LookIn w g b r (jobCells At Aj ts.length ct nj cj b no j Ar Av Ap cr cv cp) seen wr)
    (hT : StrsIn w At ts) (hV : PairsIn w Av j.vars) (hts : ∀ s ∈ ts, s.size ≤ 9223372036854775807) (htl : ts.length ≤ 9223372036854775807) (hf : JobFits j) (c : Int) (hc : (if varsB ts j.vars = true then (0 : Int) else 173) = c) :
    Calls Try.prog 66 #[.pointer (some ⟨g, 0, none⟩)] wr fun e w' => e = .returned (.int .i64 c) ∧ LookIn w g b r (jobCells At Aj ts.length ct nj cj b no j Ar Av Ap cr cv cp) seen w' := by
  have k := fun i hi => blkcell h.cells i hi
  refine (vars0 g At ct ts Av cv j.vars wr (k 0 (by simp [jobCells])) (k 10 (by simp [jobCells])) (hT.but h.but) (hV.but h.but) hts htl hf.vars).mono ?_
  rintro e w' ⟨rfl, hb⟩
  exact ⟨by rw [hc], h.step hb⟩
theorem look4 {w : World} {g b r : Nat} {At Aj : Option Addr} {ts : List ByteArray} {ct nj cj : Nat} {no : Int} {j : JobP} {Ar Av Ap : Option Addr} {cr cv cp : Nat} {seen : List Int} {wr : World} (h : LookIn w g b r (jobCells At Aj ts.length ct nj cj b no j Ar Av Ap cr cv cp) seen wr)
    (hP : IntsIn w Ap j.preds) (hf : JobFits j) (c : Int) (hc : (if predsB no j.preds = true then (0 : Int) else 174) = c) :
    Calls Try.prog 67 #[.pointer (some ⟨g, 0, none⟩)] wr fun e w' => e = .returned (.int .i64 c) ∧ LookIn w g b r (jobCells At Aj ts.length ct nj cj b no j Ar Av Ap cr cv cp) seen w' := by
  have k := fun i hi => blkcell h.cells i hi
  refine (edges0 g no Ap cp j.preds wr (k 2 (by simp [jobCells])) (k 11 (by simp [jobCells])) (hP.but h.but) hf.preds).mono ?_
  rintro e w' ⟨rfl, rfl⟩
  exact ⟨by rw [hc], h⟩
/-- Between two looks at a job. -/
def InAt (w : World) (g b r : Nat) (cs : Array Value) (ts : List ByteArray) (i : Nat) (j : JobP) (seen : List Int) (gk : Nat) (v : Value) (wr : World) : Prop :=
  ∃ k : Nat, gk = 4 - k ∧ k ≤ 4 ∧ v = .int .i64 (k : Int) ∧ LookIn w g b r cs (if k = 0 then seen else j.one.name :: seen) wr ∧ (1 ≤ k → fieldsB ts.length seen j.one = true) ∧ (2 ≤ k → rulesB ts j.rules = true) ∧ (3 ≤ k → varsB ts j.vars = true) ∧ (4 ≤ k → predsB i j.preds = true)
def PartsAt (w : World) (g b r : Nat) (At Aj : Option Addr) (ts : List ByteArray) (ct cj : Nat) (js : List JobP) (gk : Nat) (v : Value) (wr : World) : Prop :=
  ∃ i : Nat, gk = js.length - i ∧ i ≤ js.length ∧ v = .int .i64 (i : Int) ∧ ∃ seen : List Int, seen.length = i ∧ jobsC ts seen i (js.drop i) = jobsC ts [] 0 js ∧ LookAt w g b r At Aj ts.length ct js.length cj seen wr
set_option maxHeartbeats 8000000 in
theorem parts0 (At : Option Addr) (ct : Nat) (ts : List ByteArray) (Aj : Option Addr) (cj : Nat) (js : List JobP) (w : World) (hT : StrsIn w At ts) (hJ : JobsIn w Aj js) (htl : ts.length ≤ 9223372036854775807) (hjl : js.length ≤ 9223372036854775807) (hts : ∀ s ∈ ts, s.size ≤ 9223372036854775807) (hjs : ∀ j ∈ js, JobFits j) :
    Calls Try.prog 39 #[.agg #[.slice At ts.length ct, .slice Aj js.length cj]] w fun e w' => (∃ n, e = .returned (.tuple #[.int .i64 n, .int .i64 (partsC ts js)])) ∧ Below w.heap.size w w' := by
  obtain ⟨R, hR⟩ : ∃ R, partsC ts js = R := ⟨_, rfl⟩
  rw [hR]
  have HR := Lib.hid hR
  have HT := Lib.hid hT
  have HJ := Lib.hid hJ
  have HS := Lib.hid hts
  have HF := Lib.hid hjs
  obtain ⟨T, hTC⟩ : ∃ T, textsC ts js.length = T := ⟨_, rfl⟩
  have HTX := Lib.hid (fun (W : World) (h : But No w W) => hTC ▸ texts0 At ct ts Aj js.length cj W (hT.but h) htl hjl hts)
  have HTC := Lib.hid hTC
  clear hR hT hJ hts hjs hTC
  by_cases ct0 : T = 0
  case neg =>
    have E := Lib.hid (show R = T from HR.out.symm.trans ((if_neg (by rw [HTC.out]; exact ct0)).trans HTC.out))
    have dt : (T == 0) = false := by simpa using ct0
    go_enter Try.func39, Try.ntmps39
    go_wp2_with (first | (go_at_call 52; refine (HTX.out _ ((But.refl No w).alloc _)).mono ?_; rintro e w1 ⟨rfl, hb1⟩; (have HB1 := Lib.hid (((But.refl No w).alloc _).trans (But.of_below (S := No) hb1))); clear hb1))
    go_ret2
    exact ⟨⟨0, by rw [E.out]; rfl⟩, HB1.out.belowNo⟩
  subst ct0
  have E0 := Lib.hid (show R = jobsC ts [] 0 js from HR.out.symm.trans (if_pos HTC.out))
  have hj256 : js.length ≤ 256 := by
    have h := HTC.out
    unfold textsC at h
    by_cases hm : manyB ts.length js.length = true
    · unfold manyB at hm
      rw [Bool.and_eq_true, decide_eq_true_eq] at hm
      exact hm.1
    · rw [if_neg hm] at h
      exact absurd h (by decide)
  have hmm := @run_makeMap Try.prog
  go_enter Try.func39, Try.ntmps39
  go_wp2_with (first | (go_at_call 52; refine (HTX.out _ ((But.refl No w).alloc _)).mono ?_; rintro e w1 ⟨rfl, hb1⟩; (have hq0 := (hb1.cell (p := ⟨w.heap.size, 0, none⟩) (by simp)).trans (show _ = some (.slice At ts.length ct) from by go_simp)); (have hq1 := (hb1.cell (p := ⟨w.heap.size, 1, none⟩) (by simp)).trans (show _ = some (.slice Aj js.length cj) from by go_simp)); (have hq3 : ∀ o1 o2 o3, (((w1.alloc o1).alloc o2).alloc o3).cell? ⟨w.heap.size, 1, none⟩ = some (.slice Aj js.length cj) := fun o1 o2 o3 => ((((But.refl No w1).alloc o1).alloc o2).alloc o3).cell_some hq1 (fun c => c)); (have hsz : w.heap.size < w1.heap.size := by (have := hb1.size; simp at this; omega)); (have hsz' : ¬ w1.heap.size = w.heap.size := by omega); (have hsz'' : ¬ w1.heap.size + 1 = w.heap.size := by omega); (have hsz3 : ¬ w1.heap.size + 1 + 1 = w.heap.size := by omega); (have HB1 := Lib.hid (((But.refl No w).alloc _).trans (But.of_below (S := No) hb1))); clear hb1) | (go_at_call 53; refine (looks0 _).mono ?_; rintro e w2 ⟨rfl, rfl⟩))
  generalize hr : w1.heap.size + 1 + 1 = r
  generalize hg : w1.heap.size + 1 = g
  generalize hb : w1.heap.size = b
  have hst : ∀ c2 c3 c4 c5 c6 c7 c8 c9 c10 c11 : Value, LookAt w g b r At Aj ts.length ct js.length cj [] (((w1.alloc (.map #[] 0)).alloc (.cells #[.slice At ts.length ct, .slice Aj js.length cj, c2, c3, c4, c5, c6, c7, c8, c9, c10, c11, .map (some b)] 94)).alloc (.cells fourF 97)) := fun c2 c3 c4 c5 c6 c7 c8 c9 c10 c11 => by
    subst hr hg hb
    refine ⟨(((HB1.out.alloc _).alloc _).alloc _), ⟨c2, c3, c4, c5, c6, c7, c8, c9, c10, c11, ?_⟩, ?_, ?_⟩
    · refine blkold (w := (w1.alloc (.map #[] 0)).alloc _) ?_ _
      have h := heap_alloc_new (w1.alloc (.map #[] 0)) (.cells #[.slice At ts.length ct, .slice Aj js.length cj, c2, c3, c4, c5, c6, c7, c8, c9, c10, c11, .map (some w1.heap.size)] 94)
      simpa using h
    · have h := heap_alloc_new ((w1.alloc (.map #[] 0)).alloc (.cells #[.slice At ts.length ct, .slice Aj js.length cj, c2, c3, c4, c5, c6, c7, c8, c9, c10, c11, .map (some w1.heap.size)] 94)) (.cells fourF 97)
      simpa using h
    · obtain ⟨D, h1, h2, h3⟩ := NamesM.made w1
      exact ⟨D, (h1.alloc _).alloc _, h2, h3⟩
  have HST := Lib.hid hst
  have hgr : ¬ g = r := by omega
  have hgb : ¬ g = b := by omega
  have hbr : ¬ b = r := by omega
  have hwg : ¬ g < w.heap.size := by omega
  have hwr : ¬ r < w.heap.size := by omega
  have hwb : ¬ b < w.heap.size := by omega
  clear hst hq0 hq1 hq3 hmm hr hg hb hsz hsz' hsz'' hsz3 HB1
  go_loopg [25] js.length (fun gk v wr => PartsAt w g b r At Aj ts ct cj js gk v wr)
  case atStart => exact ⟨0, rfl, Nat.zero_le _, rfl, [], rfl, rfl, HST.out _ _ _ _ _ _ _ _ _ _⟩
  case round =>
    obtain ⟨i, hgk, hi, rfl, seen, hsl, hjc, hL⟩ := hrel
    have HGK := Lib.hid hgk
    have HJC := Lib.hid hjc
    have HSL := Lib.hid hsl
    have HL := Lib.hid hL
    clear hgk hjc hL hsl
    by_cases hlt : i < js.length
    case neg =>
      obtain rfl : i = js.length := by omega
      have hlt' : ¬ (js.length : Int) < (js.length : Int) := by omega
      have E := Lib.hid (show R = 0 from by rw [E0.out, ← HJC.out, List.drop_length]; rfl)
      go_wp2_with fail
      go_ret2
      exact ⟨⟨0, by rw [E.out]; rfl⟩, HL.out.but.belowNo⟩
    obtain ⟨ad, hA, Ar, Av, Ap, cr, cv, cp, hJi⟩ := HJ.out i hlt
    cases hA
    have hlt' : (i : Int) < (js.length : Int) := by omega
    have dl : decide ((i : Int) < (js.length : Int)) = true := decide_eq_true hlt'
    have hF := HF.out _ (List.getElem_mem hlt)
    have hdrop : js.drop i = js[i] :: js.drop (i + 1) := (List.getElem_cons_drop hlt).symm
    obtain ⟨j, hj⟩ : ∃ j, js[i] = j := ⟨_, rfl⟩
    rw [hj] at hJi hF hdrop
    have HD := Lib.hid hdrop
    clear hj hdrop
    have hB := HL.out.but
    have k0 := hB.cell_some hJi.c0 (fun c => c)
    have k1 := hB.cell_some hJi.c1 (fun c => c)
    have k2 := hB.cell_some hJi.c2 (fun c => c)
    have k3 := hB.cell_some hJi.c3 (fun c => c)
    have k4 := hB.cell_some hJi.c4 (fun c => c)
    have k5 := hB.cell_some hJi.c5 (fun c => c)
    have k6 := hB.cell_some hJi.c6 (fun c => c)
    have k7 := hB.cell_some hJi.c7 (fun c => c)
    have k8 := hB.cell_some hJi.c8 (fun c => c)
    have HJI := Lib.hid hJi
    have HFI := Lib.hid hF
    clear hB hJi hF
    go_wp2_with fail
    obtain ⟨c2, c3, c4, c5, c6, c7, c8, c9, c10, c11, hgc⟩ := HL.out.cells
    have hgl : g < wr.heap.size := lt_of_block hgc
    have hgh : ¬ wr.heap.size = g := by omega
    have hgh' : ¬ g = wr.heap.size := by omega
    have hfz : ∀ i, wr.frozen? ⟨g, i, none⟩ = false := blkfree hgc
    have q2 : wr.cell? ⟨g, 2, none⟩ = some c2 := blkcell hgc 2 (by simp)
    have q3 : wr.cell? ⟨g, 3, none⟩ = some c3 := blkcell hgc 3 (by simp)
    have q4 : wr.cell? ⟨g, 4, none⟩ = some c4 := blkcell hgc 4 (by simp)
    have q5 : wr.cell? ⟨g, 5, none⟩ = some c5 := blkcell hgc 5 (by simp)
    have q6 : wr.cell? ⟨g, 6, none⟩ = some c6 := blkcell hgc 6 (by simp)
    have q7 : wr.cell? ⟨g, 7, none⟩ = some c7 := blkcell hgc 7 (by simp)
    have q8 : wr.cell? ⟨g, 8, none⟩ = some c8 := blkcell hgc 8 (by simp)
    have q9 : wr.cell? ⟨g, 9, none⟩ = some c9 := blkcell hgc 9 (by simp)
    have q10 : wr.cell? ⟨g, 10, none⟩ = some c10 := blkcell hgc 10 (by simp)
    have q11 : wr.cell? ⟨g, 11, none⟩ = some c11 := blkcell hgc 11 (by simp)
    have HGC := Lib.hid hgc
    clear hgc
    refine wp_region_held_drew (S := fun w' => w'.cell? ⟨wr.heap.size, 0, none⟩ = some (.int .i64 j.one.name) ∧ w'.cell? ⟨wr.heap.size, 1, none⟩ = some (.int .i64 j.one.run) ∧ w'.cell? ⟨wr.heap.size, 2, none⟩ = some (.int .i64 j.one.stage) ∧ w'.cell? ⟨wr.heap.size, 3, none⟩ = some (.int .i64 j.one.when_) ∧ w'.cell? ⟨wr.heap.size, 4, none⟩ = some (.bool j.allow) ∧ w'.cell? ⟨wr.heap.size, 5, none⟩ = some (.int .i64 j.one.weight) ∧ w'.cell? ⟨wr.heap.size, 6, none⟩ = some (.slice Ar j.rules.length cr) ∧ w'.cell? ⟨wr.heap.size, 7, none⟩ = some (.slice Av j.vars.length cv) ∧ w'.cell? ⟨wr.heap.size, 8, none⟩ = some (.slice Ap j.preds.length cp)) (by kernel_rfl) ?hs (fun hS => ?_)
    case hs => exact ⟨by go_simp, by go_simp, by go_simp, by go_simp, by go_simp, by go_simp, by go_simp, by go_simp, by go_simp⟩
    refine wpAnyH_take (i := 0) rfl (by kernel_rfl) (by kernel_rfl) (by kernel_rfl) (fun _ _ _ h => h) (Or.inl ⟨by kernel_rfl, fun w ⟨e0, e1, e2, e3, e4, e5, e6, e7, e8⟩ => by go_simp <;> (with_reducible rfl)⟩) hS ?_
    try simp only [Act.put, List.setIfInBounds_toArray, List.set_cons_zero, List.set_cons_succ, List.getElem_toArray, List.getElem_cons_zero, List.getElem_cons_succ]
    refine wpAnyH_take (i := 1) rfl (by kernel_rfl) (by kernel_rfl) (by kernel_rfl) (fun _ _ _ h => h) (Or.inl ⟨by kernel_rfl, fun w ⟨e0, e1, e2, e3, e4, e5, e6, e7, e8⟩ => by go_simp <;> (with_reducible rfl)⟩) hS ?_
    try simp only [Act.put, List.setIfInBounds_toArray, List.set_cons_zero, List.set_cons_succ, List.getElem_toArray, List.getElem_cons_zero, List.getElem_cons_succ]
    refine wpAnyH_take (i := 2) rfl (by kernel_rfl) (by kernel_rfl) (by kernel_rfl) (fun _ _ _ h => h) (Or.inl ⟨by kernel_rfl, fun w ⟨e0, e1, e2, e3, e4, e5, e6, e7, e8⟩ => by go_simp <;> (with_reducible rfl)⟩) hS ?_
    try simp only [Act.put, List.setIfInBounds_toArray, List.set_cons_zero, List.set_cons_succ, List.getElem_toArray, List.getElem_cons_zero, List.getElem_cons_succ]
    refine wpAnyH_take (i := 3) rfl (by kernel_rfl) (by kernel_rfl) (by kernel_rfl) (fun _ _ _ h => h) (Or.inl ⟨by kernel_rfl, fun w ⟨e0, e1, e2, e3, e4, e5, e6, e7, e8⟩ => by go_simp <;> (with_reducible rfl)⟩) hS ?_
    try simp only [Act.put, List.setIfInBounds_toArray, List.set_cons_zero, List.set_cons_succ, List.getElem_toArray, List.getElem_cons_zero, List.getElem_cons_succ]
    refine wpAnyH_take (i := 4) rfl (by kernel_rfl) (by kernel_rfl) (by kernel_rfl) (fun _ _ _ h => h) (Or.inl ⟨by kernel_rfl, fun w ⟨e0, e1, e2, e3, e4, e5, e6, e7, e8⟩ => by go_simp <;> (with_reducible rfl)⟩) hS ?_
    try simp only [Act.put, List.setIfInBounds_toArray, List.set_cons_zero, List.set_cons_succ, List.getElem_toArray, List.getElem_cons_zero, List.getElem_cons_succ]
    refine wpAnyH_take (i := 5) rfl (by kernel_rfl) (by kernel_rfl) (by kernel_rfl) (fun _ _ _ h => h) (Or.inl ⟨by kernel_rfl, fun w ⟨e0, e1, e2, e3, e4, e5, e6, e7, e8⟩ => by go_simp <;> (with_reducible rfl)⟩) hS ?_
    try simp only [Act.put, List.setIfInBounds_toArray, List.set_cons_zero, List.set_cons_succ, List.getElem_toArray, List.getElem_cons_zero, List.getElem_cons_succ]
    refine wpAnyH_ready (rs := [6]) (by kernel_rfl) (by simp) (AllReadyH.cons rfl (fun K hK => ?_) AllReadyH.nil)
    rw [if_pos (by kernel_rfl)]
    go_simp
    refine hK.out _ _ ⟨by go_simp, by go_simp, by go_simp, by go_simp, by go_simp, by go_simp, by go_simp, by go_simp, by go_simp⟩ (fun hS => ?_)
    try simp only [Act.put, List.setIfInBounds_toArray, List.set_cons_zero, List.set_cons_succ, List.getElem_toArray, List.getElem_cons_zero, List.getElem_cons_succ]
    refine wpAnyH_take (i := 7) rfl (by kernel_rfl) (by kernel_rfl) (by kernel_rfl) (fun _ _ _ h => h) (Or.inl ⟨by kernel_rfl, fun w ⟨e0, e1, e2, e3, e4, e5, e6, e7, e8⟩ => by go_simp <;> (with_reducible rfl)⟩) hS ?_
    try simp only [Act.put, List.setIfInBounds_toArray, List.set_cons_zero, List.set_cons_succ, List.getElem_toArray, List.getElem_cons_zero, List.getElem_cons_succ]
    refine wpAnyH_take (i := 8) rfl (by kernel_rfl) (by kernel_rfl) (by kernel_rfl) (fun _ _ _ h => h) (Or.inl ⟨by kernel_rfl, fun w ⟨e0, e1, e2, e3, e4, e5, e6, e7, e8⟩ => by go_simp <;> (with_reducible rfl)⟩) hS ?_
    try simp only [Act.put, List.setIfInBounds_toArray, List.set_cons_zero, List.set_cons_succ, List.getElem_toArray, List.getElem_cons_zero, List.getElem_cons_succ]
    refine wpAnyH_ready (rs := [9]) (by kernel_rfl) (by simp) (AllReadyH.cons rfl (fun K2 hK2 => ?_) AllReadyH.nil)
    rw [if_pos (by kernel_rfl)]
    go_simp
    refine hK2.out _ _ ⟨by go_simp, by go_simp, by go_simp, by go_simp, by go_simp, by go_simp, by go_simp, by go_simp, by go_simp⟩ (fun hS => ?_)
    try simp only [Act.put, List.setIfInBounds_toArray, List.set_cons_zero, List.set_cons_succ, List.getElem_toArray, List.getElem_cons_zero, List.getElem_cons_succ]
    refine wpAnyH_done (by kernel_rfl) ?_ _
    clear hS
    have hli := fun o => HL.out.laid hwg hgr hgb (i : Int) j Ar Av Ap cr cv cp o
    clear q2 q3 q4 q5 q6 q7 q8 q9 q10 q11 hfz k0 k1 k2 k3 k4 k5 k6 k7 k8 HGC
    generalize hW : World.drew (World.alloc _ _) = W
    have HLI := Lib.hid (show LookIn w g b r (jobCells At (some ad) ts.length ct js.length cj b (i : Int) j Ar Av Ap cr cv cp) seen W from hW ▸ hli _)
    clear hW hli HL hgl hgh hgh'
    have HBAD := Lib.hid (show ∀ c, jobC ts seen i j = c → c ≠ 0 → R = c from fun c h hc => by
      rw [E0.out, ← HJC.out, HD.out]
      unfold jobsC
      rw [if_neg (by rw [h]; exact hc), h])
    have HGOOD := Lib.hid (show jobC ts seen i j = 0 → jobsC ts (j.one.name :: seen) (i + 1) (js.drop (i + 1)) = jobsC ts [] 0 js from fun h => by
      rw [← HJC.out, HD.out]
      exact (if_pos h).symm)
    have hseen : seen.length ≤ 256 := by have := HSL.out; omega
    have HSN := Lib.hid hseen
    clear hseen
    go_wp2_with fail
    go_loopg [40] 4 (fun gk v wr => InAt w g b r (jobCells At (some ad) ts.length ct js.length cj b (i : Int) j Ar Av Ap cr cv cp) ts i j seen gk v wr)
    case atStart => exact ⟨0, rfl, Nat.zero_le _, rfl, HLI.out, fun h => absurd h (by decide), fun h => absurd h (by decide), fun h => absurd h (by decide), fun h => absurd h (by decide)⟩
    case round =>
      obtain ⟨k, hgk2, hk4, rfl, hli2, m1, m2, m3, m4⟩ := hrel
      have HGK2 := Lib.hid hgk2
      have HL2 := Lib.hid hli2
      have M1 := Lib.hid m1
      have M2 := Lib.hid m2
      have M3 := Lib.hid m3
      have M4 := Lib.hid m4
      clear hgk2 hli2 m1 m2 m3 m4 HLI
      have hk : k = 0 ∨ k = 1 ∨ k = 2 ∨ k = 3 ∨ k = 4 := by omega
      rcases hk with rfl | rfl | rfl | rfl | rfl
      · have hr0 : wr.cell? ⟨r, 0, none⟩ = some (.func (.func 64) #[] #[]) := blkcell HL2.out.row 0 (by simp [fourF])
        obtain ⟨t, ht⟩ : ∃ t, fieldsB ts.length seen j.one = t := ⟨_, rfl⟩
        have HTT := Lib.hid ht
        clear ht
        cases t with
        | false =>
          have E := Lib.hid (HBAD.out 171 (by unfold jobC; rw [HTT.out]; rfl) (by decide))
          go_wp2_with (first | (go_at_call 64; refine (look1 (show LookIn w g b r _ seen wr from HL2.out) hwb hgb hbr HSN.out HFI.out 171 (by rw [HTT.out]; rfl)).mono ?_; rintro e w3 ⟨rfl, hl3⟩; (have HL3 := Lib.hid hl3); clear hl3))
          go_ret2
          exact ⟨⟨i, by rw [E.out]; rfl⟩, HL3.out.but.belowNo⟩
        | true =>
          go_wp2_with (first | (go_at_call 64; refine (look1 (show LookIn w g b r _ seen wr from HL2.out) hwb hgb hbr HSN.out HFI.out 0 (by rw [HTT.out]; rfl)).mono ?_; rintro e w3 ⟨rfl, hl3⟩; (have HL3 := Lib.hid hl3); clear hl3))
          go_roundg 3
          case measure => rw [HGK2.out]; decide
          case rel => exact ⟨1, rfl, by decide, by go_num, HL3.out, fun _ => HTT.out, fun h => absurd h (by decide), fun h => absurd h (by decide), fun h => absurd h (by decide)⟩
      · have hr1 : wr.cell? ⟨r, 1, none⟩ = some (.func (.func 65) #[] #[]) := blkcell HL2.out.row 1 (by simp [fourF])
        obtain ⟨t, ht⟩ : ∃ t, rulesB ts j.rules = t := ⟨_, rfl⟩
        have HTT := Lib.hid ht
        clear ht
        cases t with
        | false =>
          have E := Lib.hid (HBAD.out 172 (by unfold jobC; rw [if_pos (M1.out (by decide))]; rw [HTT.out]; rfl) (by decide))
          go_wp2_with (first | (go_at_call 65; refine (look2 HL2.out HT.out HJI.out.rules HS.out htl HFI.out 172 (by rw [HTT.out]; rfl)).mono ?_; rintro e w3 ⟨rfl, hl3⟩; (have HL3 := Lib.hid hl3); clear hl3))
          go_ret2
          exact ⟨⟨i, by rw [E.out]; rfl⟩, HL3.out.but.belowNo⟩
        | true =>
          go_wp2_with (first | (go_at_call 65; refine (look2 HL2.out HT.out HJI.out.rules HS.out htl HFI.out 0 (by rw [HTT.out]; rfl)).mono ?_; rintro e w3 ⟨rfl, hl3⟩; (have HL3 := Lib.hid hl3); clear hl3))
          go_roundg 2
          case measure => rw [HGK2.out]; decide
          case rel => exact ⟨2, rfl, by decide, by go_num, HL3.out, fun _ => M1.out (by decide), fun _ => HTT.out, fun h => absurd h (by decide), fun h => absurd h (by decide)⟩
      · have hr2 : wr.cell? ⟨r, 2, none⟩ = some (.func (.func 66) #[] #[]) := blkcell HL2.out.row 2 (by simp [fourF])
        obtain ⟨t, ht⟩ : ∃ t, varsB ts j.vars = t := ⟨_, rfl⟩
        have HTT := Lib.hid ht
        clear ht
        cases t with
        | false =>
          have E := Lib.hid (HBAD.out 173 (by unfold jobC; rw [if_pos (M1.out (by decide))]; rw [if_pos (M2.out (by decide))]; rw [HTT.out]; rfl) (by decide))
          go_wp2_with (first | (go_at_call 66; refine (look3 HL2.out HT.out HJI.out.vars HS.out htl HFI.out 173 (by rw [HTT.out]; rfl)).mono ?_; rintro e w3 ⟨rfl, hl3⟩; (have HL3 := Lib.hid hl3); clear hl3))
          go_ret2
          exact ⟨⟨i, by rw [E.out]; rfl⟩, HL3.out.but.belowNo⟩
        | true =>
          go_wp2_with (first | (go_at_call 66; refine (look3 HL2.out HT.out HJI.out.vars HS.out htl HFI.out 0 (by rw [HTT.out]; rfl)).mono ?_; rintro e w3 ⟨rfl, hl3⟩; (have HL3 := Lib.hid hl3); clear hl3))
          go_roundg 1
          case measure => rw [HGK2.out]; decide
          case rel => exact ⟨3, rfl, by decide, by go_num, HL3.out, fun _ => M1.out (by decide), fun _ => M2.out (by decide), fun _ => HTT.out, fun h => absurd h (by decide)⟩
      · have hr3 : wr.cell? ⟨r, 3, none⟩ = some (.func (.func 67) #[] #[]) := blkcell HL2.out.row 3 (by simp [fourF])
        obtain ⟨t, ht⟩ : ∃ t, predsB i j.preds = t := ⟨_, rfl⟩
        have HTT := Lib.hid ht
        clear ht
        cases t with
        | false =>
          have E := Lib.hid (HBAD.out 174 (by unfold jobC; rw [if_pos (M1.out (by decide))]; rw [if_pos (M2.out (by decide))]; rw [if_pos (M3.out (by decide))]; rw [HTT.out]; rfl) (by decide))
          go_wp2_with (first | (go_at_call 67; refine (look4 HL2.out HJI.out.preds HFI.out 174 (by rw [HTT.out]; rfl)).mono ?_; rintro e w3 ⟨rfl, hl3⟩; (have HL3 := Lib.hid hl3); clear hl3))
          go_ret2
          exact ⟨⟨i, by rw [E.out]; rfl⟩, HL3.out.but.belowNo⟩
        | true =>
          go_wp2_with (first | (go_at_call 67; refine (look4 HL2.out HJI.out.preds HFI.out 0 (by rw [HTT.out]; rfl)).mono ?_; rintro e w3 ⟨rfl, hl3⟩; (have HL3 := Lib.hid hl3); clear hl3))
          go_roundg 0
          case measure => rw [HGK2.out]; decide
          case rel => exact ⟨4, rfl, by decide, by go_num, HL3.out, fun _ => M1.out (by decide), fun _ => M2.out (by decide), fun _ => M3.out (by decide), fun _ => HTT.out⟩
      · have hz := HGOOD.out (by unfold jobC; rw [if_pos (M1.out (by decide)), if_pos (M2.out (by decide)), if_pos (M3.out (by decide)), if_pos (M4.out (by decide))])
        have HZ := Lib.hid hz
        clear hz
        go_wp2_with fail
        go_roundg (js.length - (i + 1))
        case measure => rw [HGK.out]; omega
        case rel => exact ⟨i + 1, rfl, by omega, by go_num, j.one.name :: seen, by rw [List.length_cons, HSL.out], HZ.out, HL2.out.at⟩
end Go.Proofs.Ytoaopjbgaehpfaa.G
end
section
/- plan.long: how many bytes numbers have. -/
namespace Go.Proofs.Ytoaopjbgaehpfaa.G
open Go.RowKit
attribute [local simp, local go_sem] alloc_drewN setCell_drewN
set_option linter.unusedVariables false
set_option linter.unusedSimpArgs false
set_option maxRecDepth 100000
/-- How many bytes a number has, as plan counts them. -/
def numL (n : Int) : Int := if n ≤ 127 ∨ 268435456 ≤ n then 1 else if n < 16384 then 2 else if n < 2097152 then 3 else 4
def sumL (ns : List Int) : Int := (ns.map numL).sum
theorem numL_small {n : Int} (h : n ≤ 127 ∨ 268435456 ≤ n) : numL n = 1 := if_pos h
theorem numL_bound (n : Int) : 1 ≤ numL n ∧ numL n ≤ 4 := by
  unfold numL
  split
  · omega
  · split
    · omega
    · split <;> omega
theorem numL_step {n : Int} (h1 : 127 < n) (h2 : n < 268435456) : numL n = numL (n / 128) + 1 := by
  unfold numL
  by_cases a : n < 16384
  · rw [if_neg (by omega), if_pos a, if_pos (by omega)]; rfl
  · by_cases b : n < 2097152
    · rw [if_neg (by omega), if_neg a, if_pos b, if_neg (by omega), if_pos (by omega)]; rfl
    · rw [if_neg (by omega), if_neg a, if_neg b, if_neg (by omega), if_neg (by omega), if_pos (by omega)]; rfl
theorem sumL_take {ns : List Int} {i : Nat} (h : i < ns.length) : sumL (ns.take (i + 1)) = sumL (ns.take i) + numL ns[i] := by
  unfold sumL
  rw [List.take_succ_eq_append_getElem h, List.map_append, List.sum_append]
  simp
theorem sumL_bound (ns : List Int) : 0 ≤ sumL ns ∧ sumL ns ≤ 4 * (ns.length : Int) := by
  unfold sumL
  induction ns with
  | nil => simp
  | cons a l ih =>
    rw [List.map_cons, List.sum_cons, List.length_cons]
    have := numL_bound a
    omega
def LongAt (w : World) (ns : List Int) (gk : Nat) (v3 v8 : Value) (wr : World) : Prop := ∃ i : Nat, gk = ns.length - i ∧ i ≤ ns.length ∧ v8 = .int .i64 (i : Int) ∧ wr = w ∧ v3 = .int .i64 (sumL (ns.take i))
def NumAt (w : World) (T : Int) (gk : Nat) (v3 v5 : Value) (wr : World) : Prop := ∃ n s : Int, gk = n.toNat ∧ v3 = .int .i64 s ∧ v5 = .int .i64 n ∧ wr = w ∧ s + numL n = T + 1 ∧ 0 ≤ s ∧ n ≤ 9223372036854775807 ∧ -9223372036854775808 ≤ n
set_option maxHeartbeats 4000000 in
theorem long0 (A : Option Addr) (c : Nat) (ns : List Int) (w : World) (hT : IntsIn w A ns) (hl : ns.length ≤ 1152921504606846975) (hn : ∀ n ∈ ns, n ≤ 9223372036854775807 ∧ -9223372036854775808 ≤ n) :
    Calls Try.prog 54 #[.slice A ns.length c] w fun e w' => e = .returned (.int .i64 (sumL ns)) ∧ w' = w := by
  have HT := Lib.hid hT
  have HN := Lib.hid hn
  clear hT hn
  go_enter Try.func54, Try.ntmps54
  go_wp2_with fail
  go_loopg [3, 8] ns.length (fun gk v3 v8 wr => LongAt w ns gk v3 v8 wr)
  case atStart => exact ⟨0, rfl, Nat.zero_le _, rfl, rfl, rfl⟩
  case round =>
    obtain ⟨i, hgk, hi, rfl, rfl, rfl⟩ := hrel
    have HGK := Lib.hid hgk
    clear hgk
    have hsb := sumL_bound (ns.take i)
    rw [List.length_take_of_le hi] at hsb
    obtain ⟨s0, hs0⟩ : ∃ s, sumL (ns.take i) = s := ⟨_, rfl⟩
    rw [hs0] at hsb ⊢
    by_cases hlt : i < ns.length
    · obtain ⟨ad, hA, k1⟩ := HT.out i hlt
      cases hA
      have hn := HN.out _ (List.getElem_mem hlt)
      have HTK := Lib.hid (sumL_take hlt)
      obtain ⟨n, hnn⟩ : ∃ n, ns[i] = n := ⟨_, rfl⟩
      rw [hnn] at k1 hn
      have HTK2 := Lib.hid (show sumL (ns.take (i + 1)) = s0 + numL n from by rw [HTK.out, hs0, hnn])
      have hlt' : (i : Int) < (ns.length : Int) := by omega
      have dl : decide ((i : Int) < (ns.length : Int)) = true := decide_eq_true hlt'
      clear hnn hs0 HTK
      go_wp2_with fail
      go_loopg [3, 5] n.toNat (fun gk v3 v5 w' => NumAt wr (s0 + numL n) gk v3 v5 w')
      case atStart => exact ⟨n, s0 + 1, rfl, rfl, rfl, rfl, by omega, by omega, hn.1, hn.2⟩
      case round =>
        obtain ⟨m, s, hgk2, rfl, rfl, rfl, hT, hs, hm1, hm2⟩ := hrel
        have HGK2 := Lib.hid hgk2
        have HTT := Lib.hid hT
        have hnb := numL_bound m
        have hnb2 := numL_bound n
        have hsu : s ≤ 9223372036854775000 := by omega
        clear hgk2 hT hnb hnb2
        by_cases c1 : 127 < m
        · have d1 : decide (127 < m) = true := decide_eq_true c1
          by_cases c2 : m < 268435456
          · have d2 : decide (m < 268435456) = true := decide_eq_true c2
            have E := Lib.hid (numL_step c1 c2)
            go_wp2_with fail
            go_roundg (m / 128).toNat
            case measure => rw [HGK2.out]; omega
            case rel => exact ⟨m / 128, s + 1, rfl, rfl, rfl, rfl, by have := HTT.out; have := E.out; omega, by omega, by omega, by omega⟩
          · have d2 : decide (m < 268435456) = false := decide_eq_false c2
            have E := Lib.hid (show s = s0 + numL n from by have := HTT.out; rw [numL_small (by omega)] at this; omega)
            go_wp2_with fail
            go_roundg (ns.length - (i + 1))
            case measure => rw [HGK.out]; omega
            case rel => exact ⟨i + 1, rfl, by omega, by go_num, rfl, by rw [HTK2.out, E.out]⟩
        · have d1 : decide (127 < m) = false := decide_eq_false c1
          have E := Lib.hid (show s = s0 + numL n from by have := HTT.out; rw [numL_small (by omega)] at this; omega)
          go_wp2_with fail
          go_roundg (ns.length - (i + 1))
          case measure => rw [HGK.out]; omega
          case rel => exact ⟨i + 1, rfl, by omega, by go_num, rfl, by rw [HTK2.out, E.out]⟩
    · obtain rfl : i = ns.length := by omega
      have hlt' : ¬ (ns.length : Int) < (ns.length : Int) := by omega
      rw [List.take_length] at hs0
      have E := Lib.hid hs0
      clear hs0
      go_wp2_with fail
      go_ret
      exact ⟨by rw [E.out]; rfl, rfl⟩
end Go.Proofs.Ytoaopjbgaehpfaa.G
end
section
/- plan.size: how long a plan is. -/
namespace Go.Proofs.Ytoaopjbgaehpfaa.G
open Go.RowKit
attribute [local simp, local go_sem] alloc_drewN setCell_drewN
set_option linter.unusedVariables false
set_option linter.unusedSimpArgs false
set_option maxRecDepth 100000
def textSz (s : ByteArray) : Int := sumL [(s.size : Int)] + (s.size : Int)
def varSz (v : Int × Int) : Int := sumL [v.1, v.2]
def stepSz (x : Int × Int) : Int := if saysB x.1 = true then sumL [x.2] else 0
def ruleSz (r : List (Int × Int) × Int) : Int := sumL [r.2, (r.1.length : Int)] + (r.1.length : Int) + (r.1.map stepSz).sum
def jobSz (j : JobP) : Int := 1 + sumL [j.one.name, j.one.run, j.one.stage, j.one.when_, j.one.weight, (j.rules.length : Int), (j.vars.length : Int), (j.preds.length : Int)] + sumL j.preds + (j.vars.map varSz).sum + (j.rules.map ruleSz).sum
def sizeP (ts : List ByteArray) (js : List JobP) : Int := 5 + sumL [(ts.length : Int), (js.length : Int)] + (ts.map textSz).sum + (js.map jobSz).sum
def In64 (n : Int) : Prop := n ≤ 9223372036854775807 ∧ -9223372036854775808 ≤ n
structure JobSmall (j : JobP) : Prop where
  rules : j.rules.length ≤ 16
  vars : j.vars.length ≤ 256
  preds : j.preds.length ≤ 256
  codes : ∀ r ∈ j.rules, r.1.length ≤ 1024
  name : In64 j.one.name
  run : In64 j.one.run
  stage : In64 j.one.stage
  when_ : In64 j.one.when_
  weight : In64 j.one.weight
  whens : ∀ r ∈ j.rules, In64 r.2
  steps : ∀ r ∈ j.rules, ∀ x ∈ r.1, In64 x.2
  names : ∀ v ∈ j.vars, In64 v.1 ∧ In64 v.2
  froms : ∀ p ∈ j.preds, In64 p
structure SizeFits (ts : List ByteArray) (js : List JobP) : Prop where
  texts : ts.length ≤ 65536
  sizes : ∀ s ∈ ts, s.size ≤ 4096
  jobs : js.length ≤ 256
  each : ∀ j ∈ js, JobSmall j
theorem sum_take_succ {fs : List Int} {i : Nat} (h : i < fs.length) : (fs.take (i + 1)).sum = (fs.take i).sum + fs[i] := by
  rw [List.take_succ_eq_append_getElem h, List.sum_append]
  simp
theorem sum_bnd {B : Int} (hB : 0 ≤ B) : ∀ {fs : List Int}, (∀ x ∈ fs, 0 ≤ x ∧ x ≤ B) → 0 ≤ fs.sum ∧ fs.sum ≤ B * (fs.length : Int)
  | [], _ => by simp
  | a :: l, h => by
    have h1 := h a (by simp)
    have h2 := sum_bnd hB (fun x hx => h x (List.mem_cons_of_mem _ hx))
    rw [List.sum_cons, List.length_cons]
    have : B * ((l.length + 1 : Nat) : Int) = B * (l.length : Int) + B := by push_cast; rw [Int.mul_add, Int.mul_one]
    omega
theorem sum_bnd_take {B : Int} (hB : 0 ≤ B) {fs : List Int} (h : ∀ x ∈ fs, 0 ≤ x ∧ x ≤ B) (i : Nat) : 0 ≤ (fs.take i).sum ∧ (fs.take i).sum ≤ B * (fs.length : Int) := by
  have h1 := sum_bnd hB (fs := fs.take i) (fun x hx => h x (List.mem_of_mem_take hx))
  refine ⟨h1.1, Int.le_trans h1.2 (Int.mul_le_mul_of_nonneg_left ?_ hB)⟩
  rw [List.length_take]
  omega
theorem textSz_bnd {s : ByteArray} (h : s.size ≤ 4096) : 0 ≤ textSz s ∧ textSz s ≤ 4100 := by
  have := sumL_bound [(s.size : Int)]
  unfold textSz
  simp only [List.length_cons, List.length_nil] at this
  omega
theorem varSz_bnd (v : Int × Int) : 0 ≤ varSz v ∧ varSz v ≤ 8 := by
  have := sumL_bound [v.1, v.2]
  simp only [List.length_cons, List.length_nil] at this
  unfold varSz
  omega
theorem stepSz_bnd (x : Int × Int) : 0 ≤ stepSz x ∧ stepSz x ≤ 4 := by
  have := sumL_bound [x.2]
  simp only [List.length_cons, List.length_nil] at this
  unfold stepSz
  split <;> omega
theorem stepsSz_bnd {r : List (Int × Int)} (h : r.length ≤ 1024) (i : Nat) : 0 ≤ ((r.map stepSz).take i).sum ∧ ((r.map stepSz).take i).sum ≤ 4096 := by
  have := sum_bnd_take (B := 4) (by decide) (fs := r.map stepSz) (fun x hx => by obtain ⟨y, _, rfl⟩ := List.mem_map.1 hx; exact stepSz_bnd y) i
  rw [List.length_map] at this
  omega
theorem ruleSz_bnd {r : List (Int × Int) × Int} (h : r.1.length ≤ 1024) : 0 ≤ ruleSz r ∧ ruleSz r ≤ 6000 := by
  have h1 := sumL_bound [r.2, (r.1.length : Int)]
  have h2 := stepsSz_bnd h r.1.length
  simp only [List.length_cons, List.length_nil] at h1
  rw [List.take_of_length_le (by rw [List.length_map]; exact Nat.le_refl _)] at h2
  unfold ruleSz
  omega
theorem rulesSz_bnd {rs : List (List (Int × Int) × Int)} (h : rs.length ≤ 16) (hc : ∀ r ∈ rs, r.1.length ≤ 1024) (i : Nat) : 0 ≤ ((rs.map ruleSz).take i).sum ∧ ((rs.map ruleSz).take i).sum ≤ 96000 := by
  have := sum_bnd_take (B := 6000) (by decide) (fs := rs.map ruleSz) (fun x hx => by obtain ⟨y, hy, rfl⟩ := List.mem_map.1 hx; exact ruleSz_bnd (hc y hy)) i
  rw [List.length_map] at this
  omega
theorem varsSz_bnd {vs : List (Int × Int)} (h : vs.length ≤ 256) (i : Nat) : 0 ≤ ((vs.map varSz).take i).sum ∧ ((vs.map varSz).take i).sum ≤ 2048 := by
  have := sum_bnd_take (B := 8) (by decide) (fs := vs.map varSz) (fun x hx => by obtain ⟨y, _, rfl⟩ := List.mem_map.1 hx; exact varSz_bnd y) i
  rw [List.length_map] at this
  omega
theorem jobSz_bnd {j : JobP} (h : JobSmall j) : 0 ≤ jobSz j ∧ jobSz j ≤ 200000 := by
  have h1 := sumL_bound [j.one.name, j.one.run, j.one.stage, j.one.when_, j.one.weight, (j.rules.length : Int), (j.vars.length : Int), (j.preds.length : Int)]
  have h2 := sumL_bound j.preds
  have h3 := varsSz_bnd h.vars j.vars.length
  have h4 := rulesSz_bnd h.rules h.codes j.rules.length
  rw [List.take_of_length_le (by rw [List.length_map]; exact Nat.le_refl _)] at h3 h4
  simp only [List.length_cons, List.length_nil] at h1
  have := h.preds
  unfold jobSz
  omega
theorem textsSz_bnd {ts : List ByteArray} (h : ts.length ≤ 65536) (hs : ∀ s ∈ ts, s.size ≤ 4096) (i : Nat) : 0 ≤ ((ts.map textSz).take i).sum ∧ ((ts.map textSz).take i).sum ≤ 268697600 := by
  have := sum_bnd_take (B := 4100) (by decide) (fs := ts.map textSz) (fun x hx => by obtain ⟨y, hy, rfl⟩ := List.mem_map.1 hx; exact textSz_bnd (hs y hy)) i
  rw [List.length_map] at this
  omega
theorem jobsSz_bnd {js : List JobP} (h : js.length ≤ 256) (hs : ∀ j ∈ js, JobSmall j) (i : Nat) : 0 ≤ ((js.map jobSz).take i).sum ∧ ((js.map jobSz).take i).sum ≤ 51200000 := by
  have := sum_bnd_take (B := 200000) (by decide) (fs := js.map jobSz) (fun x hx => by obtain ⟨y, hy, rfl⟩ := List.mem_map.1 hx; exact jobSz_bnd (hs y hy)) i
  rw [List.length_map] at this
  omega
/-- A row of numbers just made. -/
theorem intsIn_new (w : World) (ns : List Int) (t : TypeId) (b : Nat) (hb : b = w.heap.size) : IntsIn (w.alloc (.cells (ns.map (Value.int .i64)).toArray t)) (some ⟨b, 0, none⟩) ns := fun i hi => by
  subst hb
  refine ⟨_, rfl, ?_⟩
  have h := heap_alloc_new w (.cells (ns.map (Value.int .i64)).toArray t)
  have h2 := cell_of_row (w.alloc (.cells (ns.map (Value.int .i64)).toArray t)) w.heap.size i (ns.map (Value.int .i64)).toArray t (0, 0) h
  rw [addr_add, Nat.zero_add, h2]
  simp [hi]
theorem intsIn_newD (w : World) (ns : List Int) (t : TypeId) (b : Nat) (hb : b = w.heap.size) : IntsIn (w.alloc (.cells (ns.map (Value.int .i64)).toArray t)).drew (some ⟨b, 0, none⟩) ns := intsIn_new w ns t b hb
/-- wpAnyH_take, the slot given. -/
theorem takeD {P : Program} {ops : Array Oper} {Q : Exit → Act → World → Prop} {md : Region.Mode} {S : World → Prop} (i : Nat) (d : Option Nat) {oi : Oper} {v : Value} {fuel : Nat} {listed : Array Bool} {a : Act} {w : World} (hi : ops[i]? = some oi) (hd : oi.dst = d)
    (hs : Region.noSelect ops = true) (hf : Region.free md ops listed i = true) (hr : (Region.ready md ops listed).contains i = true)
    (hQ : ∀ c a w, Q (.panic c) (a.put oi.dst v) w → Q (.panic c) a w) (hy : YieldsIf P ops S oi v a) (hS : S w)
    (h : wpAnyH P md ops Q S fuel (listed.setIfInBounds i true) (a.put d v) w) : wpAnyH P md ops Q S (fuel + 1) listed a w := by
  subst hd
  exact wpAnyH_take hi hs hf hr hQ hy hS h
def SumAt (W : World) (base : Int) (n : Nat) (fs : List Int) (gk : Nat) (v3 vi : Value) (wr : World) : Prop := ∃ i : Nat, gk = n - i ∧ i ≤ n ∧ vi = .int .i64 (i : Int) ∧ But No W wr ∧ v3 = .int .i64 (base + (fs.take i).sum)
end Go.Proofs.Ytoaopjbgaehpfaa.G
end
