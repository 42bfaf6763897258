/- Texts of this claim, joined: words and laws that the others use. -/
import Derived.Test.YtoaopjbgaehpfaaQNo
import Derived.Test.YtoaopjbgaehpfaaQMo
import Derived.ArgAppend
import Derived.Test.YtoaopjbgaehpfaaQMp
section
/- The reference's plan: Check and Takes. -/
namespace Go.Proofs.Ytoaopjbgaehpfaa.G
open Go.RowKit
attribute [local simp, local go_sem] alloc_drewN setCell_drewN
set_option linter.unusedVariables false
set_option linter.unusedSimpArgs false
set_option maxRecDepth 100000
def chkC (ts : List ByteArray) (js : List JobP) : Int := if partsC ts js = 0 then (if 262144 < sizeP ts js then 176 else 0) else partsC ts js
theorem chkC_ok (ts : List ByteArray) (js : List JobP) : (chkC ts js == 0) = okP ts js := by
  unfold chkC okP
  by_cases h : partsC ts js = 0
  · rw [if_pos h, decide_eq_true h, Bool.true_and]
    by_cases h2 : 262144 < sizeP ts js
    · rw [if_pos h2, decide_eq_false (by omega)]; rfl
    · rw [if_neg h2, decide_eq_true (by omega)]; rfl
  · rw [if_neg h, decide_eq_false h, Bool.false_and]
    simpa using h
set_option maxHeartbeats 4000000 in
theorem check17 {w : World} {At Aj : Option Addr} {ts : List ByteArray} {js : List JobP} (ct cj : Nat) (h : PlanIn w At ts Aj js) :
    Calls Try.prog 41 #[.agg #[.slice At ts.length ct, .slice Aj js.length cj]] w fun e w' => (∃ k : Int, e = .returned (.tuple #[.int .i64 k, .int .i64 (chkC ts js)])) ∧ But No w w' := by
  have HP := Lib.hid (fun W (hW : But No w W) => short17 At Aj ct cj ts js W (h.but hW).texts (h.but hW).jobs h.sizes h.tl h.jl h.fits)
  obtain ⟨R, hR⟩ : ∃ R, chkC ts js = R := ⟨_, rfl⟩
  rw [hR]
  by_cases h1 : partsC ts js = 0
  · have HZ := Lib.hid (fun W (hW : But No w W) => size17 At Aj ct cj ts js W (h.but hW).texts (h.but hW).jobs (size_fits h1) (nums_all h1))
    have HR := Lib.hid (show R = if 262144 < sizeP ts js then 176 else 0 from hR.symm.trans (if_pos h1))
    have H1 := Lib.hid h1
    generalize sizeP ts js = Z at HZ HR
    clear h1 hR
    by_cases c1 : 262144 < Z
    · have d1 : decide (262144 < Z) = true := decide_eq_true c1
      have E := Lib.hid (HR.out.trans (if_pos c1))
      go_enter Try.func41, Try.ntmps41
      go_wp2_with (first | (go_at_call 56; refine (HP.out _ ((But.refl No w).alloc _)).mono ?_; rw [H1.out]; rintro e w1 ⟨⟨n, rfl⟩, hb⟩; (have q0 := hb.cell_some (p := ⟨w.heap.size, 0, none⟩) (show _ = some (.slice At ts.length ct) from by go_simp) (fun c => c)); (have q1 := hb.cell_some (p := ⟨w.heap.size, 1, none⟩) (show _ = some (.slice Aj js.length cj) from by go_simp) (fun c => c)); (have HB1 := Lib.hid (((But.refl No w).alloc _).trans hb)); clear hb) | (go_at_call 57; refine (HZ.out _ HB1.out).mono ?_; rintro e w2 ⟨rfl, hb⟩; (have HB2 := Lib.hid (HB1.out.trans hb)); clear hb))
      go_ret2
      exact ⟨⟨0, by rw [E.out]; rfl⟩, HB2.out⟩
    · have d1 : decide (262144 < Z) = false := decide_eq_false c1
      have E := Lib.hid (HR.out.trans (if_neg c1))
      go_enter Try.func41, Try.ntmps41
      go_wp2_with (first | (go_at_call 56; refine (HP.out _ ((But.refl No w).alloc _)).mono ?_; rw [H1.out]; rintro e w1 ⟨⟨n, rfl⟩, hb⟩; (have q0 := hb.cell_some (p := ⟨w.heap.size, 0, none⟩) (show _ = some (.slice At ts.length ct) from by go_simp) (fun c => c)); (have q1 := hb.cell_some (p := ⟨w.heap.size, 1, none⟩) (show _ = some (.slice Aj js.length cj) from by go_simp) (fun c => c)); (have HB1 := Lib.hid (((But.refl No w).alloc _).trans hb)); clear hb) | (go_at_call 57; refine (HZ.out _ HB1.out).mono ?_; rintro e w2 ⟨rfl, hb⟩; (have HB2 := Lib.hid (HB1.out.trans hb)); clear hb))
      go_ret2
      exact ⟨⟨0, by rw [E.out]; rfl⟩, HB2.out⟩
  · have E := Lib.hid (show partsC ts js = R from (if_neg h1).symm.trans hR)
    clear hR
    generalize partsC ts js = C at HP h1 E
    have hc : (C == 0) = false := by simpa using h1
    have hc' : (C != 0) = true := by simpa using h1
    go_enter Try.func41, Try.ntmps41
    go_wp2_with (first | (go_at_call 56; refine (HP.out _ ((But.refl No w).alloc _)).mono ?_; rintro e w1 ⟨⟨n, rfl⟩, hb⟩; (have HB1 := Lib.hid (((But.refl No w).alloc _).trans hb)); clear hb))
    go_ret2
    exact ⟨⟨n, by rw [E.out]; rfl⟩, HB1.out⟩
theorem takes17 {w : World} {At Aj : Option Addr} {ts : List ByteArray} {js : List JobP} (ct cj : Nat) (h : PlanIn w At ts Aj js) : TakesOk ts js At Aj ct cj w := by
  intro W hW
  have HC := Lib.hid (fun W' (hW' : But No W W') => check17 ct cj (h.but (hW.trans hW')))
  obtain ⟨b, hb⟩ : ∃ b, okP ts js = b := ⟨_, rfl⟩
  have HB := Lib.hid ((chkC_ok ts js).trans hb)
  rw [hb]
  clear hb hW h
  generalize chkC ts js = C at HC HB
  have hb := HB.out
  go_enter Try.func22, Try.ntmps22
  go_wp2_with (first | (go_at_call 41; refine (HC.out _ ((But.refl No W).alloc _)).mono ?_; rintro e w1 ⟨⟨n, rfl⟩, hb1⟩; (have HB1 := Lib.hid (((But.refl No W).alloc _).trans hb1)); clear hb1))
  go_ret
  exact ⟨by first | rfl | rw [HB.out], HB1.out⟩
end Go.Proofs.Ytoaopjbgaehpfaa.G
end
section
/- SpoilBytes: bytes written over. -/
namespace Go.Proofs.Ytoaopjbgaehpfaa.G
open Go.RowKit
attribute [local simp, local go_sem] alloc_drewN setCell_drewN
set_option linter.unusedVariables false
set_option linter.unusedSimpArgs false
set_option maxRecDepth 100000
/-- A block of bytes, of so many at least. -/
def BlkOk (w : World) (g m : Nat) : Prop := ∃ cs : Array Value, w.heap[g]? = some (Obj.cells cs 5 (0, 0)) ∧ m ≤ cs.size
theorem BlkOk.set {w : World} {g m : Nat} (h : BlkOk w g m) (b o : Nat) (u : Value) : BlkOk (w.setCell ⟨b, o, none⟩ u) g m := by
  obtain ⟨cs, h1, h2⟩ := h
  by_cases e : g = b
  · subst e
    exact ⟨cs.setIfInBounds o u, blkset h1 o u, by simpa using h2⟩
  · exact ⟨cs, blkfar h1 e u, h2⟩
theorem BlkOk.cell {w : World} {g m i : Nat} (h : BlkOk w g m) (hi : i < m) : ∃ u, w.cell? ⟨g, i, none⟩ = some u := by
  obtain ⟨cs, h1, h2⟩ := h
  exact ⟨_, blkcell h1 i (by omega)⟩
theorem BlkOk.free {w : World} {g m : Nat} (h : BlkOk w g m) : ∀ i, w.frozen? ⟨g, i, none⟩ = false := by
  obtain ⟨cs, h1, h2⟩ := h
  exact blkfree h1
theorem row_blk {w : World} {base n : Nat} {v : Value} {xs : List Value} {g c : Nat} (h : w.ownsRow base 5 1 v n xs) (hv : v = .slice (some ⟨g, 0, none⟩) n c) : BlkOk w g n := by
  rcases h.2 with ⟨hv2, h0⟩ | ⟨g', cap, cur, hv2, hg, hh, hc, hm, hcs, ht⟩
  · rw [hv2] at hv; cases hv
  · rw [hv2] at hv
    injection hv with hA hB hC
    injection hA with hA
    injection hA with hA
    subst hA hC
    have : cur.size = cap * 1 := hcs
    exact ⟨cur, hh, by omega⟩
/-- append of one byte to bytes of the call's own: what may change, and what is kept. -/
theorem spoilApp {ops : Array Oper} {rest : List Oper} {o : Oper} {a : Act} {W : World} {Q : Exit → Act → World → Prop} (hgd : o.guard = none) (s y : Operand)
    (ho : o.op = .call { callee := .builtin .append, args := #[s, y], argTypes := #[26, 26] }) (hty : o.type = 26)
    (base : Nat) (A : Option Addr) (n c : Nat) (l : List Int) (hs : a.eval s = .slice A n c) (hI : byE.Own W base (.slice A n c) l) (g1 : Nat) (hy : a.eval y = .slice (some ⟨g1, 0, none⟩) 1 1)
    (hc : W.heap[g1]? = some (.cells #[.int .u8 201] 5 (0, 0))) (hl : n ≤ 100000000000000)
    (h : ∀ gf cf w2, BlkOk w2 gf (n + 1) → But (fun k => (Value.slice A n c).ownBlock = some k) W w2 → (∀ g, A = some g → g = ⟨g.block, 0, none⟩ ∧ BlkOk w2 g.block n) → ((Value.slice A n c).ownBlock = some gf ∨ W.heap.size ≤ gf) → wpList Try.prog ops Q rest (a.put o.dst (.slice (some ⟨gf, 0, none⟩) (n + 1) cf)) w2) : wpList Try.prog ops Q (o :: rest) a W := by
  obtain ⟨i, h1, h2, h3, h4⟩ := info_get byE.hi
  have hcell : ∀ j u, [Value.int .u8 201][j]? = some u → W.cell? ((⟨g1, 0, none⟩ : Addr).add j) = some u := by
    intro j u hj
    rw [addr_add, Nat.zero_add, cell_of_row W g1 _ _ _ _ hc, ← Array.getElem?_toList]
    exact hj
  have hone : ∀ u ∈ [Value.int .u8 201], u.oneCell' = true := byE.hone 201
  rcases hI with ⟨hlen, ⟨hv, h0⟩ | ⟨g, cap, cur, hv, hg, hh, hcc, hmx, hcs, ht⟩⟩
  · injection hv with e1 e2 e3
    subst e1 e2 e3
    refine wpList_append_grows W hgd s y 26 ho 5 i byE.zero 1 1 byE.hu h1 h2 h3 h4 byE.hzs byE.hpos none 0 0 [] hs (fun _ => ⟨rfl, rfl⟩) rfl (fun b hb => by cases hb) ⟨g1, 0, none⟩ 1 1 [.int .u8 201] hy rfl hcell hone (by omega) (by unfold maxLen; omega) (by omega) (fun v' w' h5 h6 => ?_)
    rcases h5.2 with ⟨hv2, h02⟩ | ⟨g2, cap2, cur2, hv2, hg2, _⟩
    · omega
    · have hb2 := row_blk h5 hv2
      subst hv2
      exact h g2 cap2 w' hb2 ((But.refl _ W).grown h6 (fun k hk => by cases hk)) (fun g hg => by cases hg) (.inr hg2)
  · injection hv with e1 e2 e3
    subst e1 e2 e3
    have hcs' : cur.size = c * 1 := hcs
    have hout : ∀ w', But No W w' → BlkOk w' g l.length := fun w' hb => ⟨cur, (hb.block g (lt_of_block hh) (fun c => c)).trans hh, by omega⟩
    refine wpList_append_arg W hgd s y 26 ho 5 i byE.zero 1 1 byE.hu h1 h2 h3 h4 byE.hzs byE.hpos g 0 l.length c (byE.cells l) hs (by rw [byE.cells_length]; rfl) (fun j u hj => ?_) ⟨g1, 0, none⟩ 1 1 [.int .u8 201] hy rfl hcell hone (fun hr j hj => ?_) (by unfold maxLen; omega) (by omega) (fun hr => ?_) (fun hr v' w' h5 h6 => ?_)
    · rw [Nat.zero_add, cell_of_row W g _ cur _ _ hh, ← Array.getElem?_toList]
      rw [← ht, List.getElem?_take] at hj
      split at hj
      · exact hj
      · cases hj
    · have hj0 : j = 0 := by simp at hj; exact hj
      subst hj0
      exact ⟨by rw [blkcell hh (0 + l.length * 1 + 0) (by omega)]; rfl, blkfree hh _⟩
    · have hset : W.setCells g (0 + l.length * 1) [.int .u8 201] = W.setCell ⟨g, 0 + l.length * 1, none⟩ (.int .u8 201) := rfl
      rw [hset]
      have hbk : BlkOk W g (l.length + 1) := ⟨cur, hh, by omega⟩
      have hbk2 : BlkOk W g l.length := ⟨cur, hh, by omega⟩
      exact h g c _ (hbk.set _ _ _) ((But.refl (fun k => (Value.slice (some ⟨g, 0, none⟩) l.length c).ownBlock = some k) W).setCell (p := ⟨g, 0 + l.length * 1, none⟩) (.inl rfl) _) (fun g' hg' => by cases hg'; exact ⟨rfl, hbk2.set _ _ _⟩) (.inl rfl)
    · rcases h5.2 with ⟨hv2, h02⟩ | ⟨g2, cap2, cur2, hv2, hg2, _⟩
      · omega
      · have hb2 := row_blk h5 hv2
        subst hv2
        have hbn : But No W w' := (But.refl _ W).grown h6 (fun k hk => by cases hk)
        exact h g2 cap2 w' hb2 (hbn.mono fun b _ c => c.elim) (fun g' hg' => by cases hg'; exact ⟨rfl, hout _ hbn⟩) (.inr hg2)
def SpAt (w : World) (S : Nat → Prop) (m : Nat) (P : World → Prop) (gk : Nat) (v : Value) (wr : World) : Prop := ∃ i : Nat, gk = m - i ∧ i ≤ m ∧ v = .int .i64 (i : Int) ∧ But S w wr ∧ P wr
set_option maxHeartbeats 4000000 in
theorem spoilBytes0 {w : World} {base : Nat} {A : Option Addr} {n c : Nat} {l : List Int} (h : byE.Own w base (.slice A n c) l) (hl : n ≤ 100000000000000) :
    Calls Try.prog 15 #[.slice A n c] w fun e w' => e = .returned (.tuple #[]) ∧ But (fun k => (Value.slice A n c).ownBlock = some k) w w' := by
  have H := Lib.hid h
  clear h
  go_enter Try.func15, Try.ntmps15
  go_wp2_with (at_builtin; go_loud (refine spoilApp rfl _ _ rfl rfl base A n c _ rfl (H.out.alloc _) w.heap.size rfl ?hrow hl ?_); (case hrow => exact heap_alloc_new w _); intro gf cf w2 hbk hbut hbA hgf; (have HK := Lib.hid hbk); (have HBU := Lib.hid hbut); (have HA := Lib.hid hbA); (have HGF := Lib.hid hgf); clear hbk hbut hbA hgf)
  have HB2 := Lib.hid (show But (fun k => (Value.slice A n c).ownBlock = some k) w w2 from ((But.refl _ w).alloc (.cells #[.int .u8 201] 5)).trans HBU.out)
  have HG2 := Lib.hid (show (Value.slice A n c).ownBlock = some gf ∨ w.heap.size ≤ gf from HGF.out.imp id (fun h => by simp at h; omega))
  have hn1 : n + 1 ≤ 9223372036854775807 := by omega
  go_loopg [3] (n + 1) (fun gk v wr => SpAt w (fun k => (Value.slice A n c).ownBlock = some k) (n + 1) (fun wr => BlkOk wr gf (n + 1) ∧ ∀ g, A = some g → g = ⟨g.block, 0, none⟩ ∧ BlkOk wr g.block n) gk v wr)
  case atStart => exact ⟨0, rfl, Nat.zero_le _, rfl, HB2.out, HK.out, HA.out⟩
  case round =>
    obtain ⟨i, hgk, hi, rfl, hb, hk1, hk2⟩ := hrel
    have HGK := Lib.hid hgk
    have HBt := Lib.hid hb
    have HK1 := Lib.hid hk1
    have HK2 := Lib.hid hk2
    clear hgk hb hk1 hk2
    by_cases hlt : i < n + 1
    · have hlt' : (i : Int) < ((n + 1 : Nat) : Int) := by omega
      have dl : decide ((i : Int) < ((n + 1 : Nat) : Int)) = true := decide_eq_true hlt'
      have hlt2 : (i : Int) < (n : Int) + 1 := by omega
      have dl2 : decide ((i : Int) < (n : Int) + 1) = true := decide_eq_true hlt2
      obtain ⟨u, hu⟩ := HK1.out.cell hlt
      have hfr := HK1.out.free i
      have haz : (⟨gf, 0, none⟩ : Addr).add i = ⟨gf, i, none⟩ := by rw [addr_add, Nat.zero_add]
      go_wp2_with fail
      go_roundg (n + 1 - (i + 1))
      case measure => rw [HGK.out]; omega
      case rel => exact ⟨i + 1, rfl, by omega, by go_num, HBt.out.setCell (p := ⟨gf, i, none⟩) HG2.out _, HK1.out.set _ _ _, fun g hg => ⟨(HK2.out g hg).1, (HK2.out g hg).2.set _ _ _⟩⟩
    obtain rfl : i = n + 1 := by omega
    have hlt' : ¬ ((n + 1 : Nat) : Int) < ((n + 1 : Nat) : Int) := by omega
    have hlt2 : ¬ (n : Int) + 1 < (n : Int) + 1 := by omega
    go_wp2_with fail
    go_loopg [4] n (fun gk v wx => SpAt w (fun k => (Value.slice A n c).ownBlock = some k) n (fun wx => ∀ g, A = some g → g = ⟨g.block, 0, none⟩ ∧ BlkOk wx g.block n) gk v wx)
    case atStart => exact ⟨0, rfl, Nat.zero_le _, rfl, HBt.out, HK2.out⟩
    case round =>
      obtain ⟨i, hgk, hi, rfl, hb, hk2⟩ := hrel
      have HGK3 := Lib.hid hgk
      have HBt3 := Lib.hid hb
      have HK3 := Lib.hid hk2
      clear hgk hb hk2
      by_cases hlt : i < n
      · have hlt3 : (i : Int) < (n : Int) := by omega
        have dl3 : decide ((i : Int) < (n : Int)) = true := decide_eq_true hlt3
        rcases H.out.form with ⟨hv, h0⟩ | ⟨g', c', hv, hg1, hg2', _⟩
        · injection hv with e1 e2 e3
          omega
        · injection hv with e1 e2 e3
          subst e1
          clear e2 e3
          obtain ⟨_, hbk⟩ := HK3.out _ rfl
          dsimp only at hbk
          obtain ⟨u, hu⟩ := hbk.cell hlt
          have hfr := hbk.free i
          have haz : (⟨g', 0, none⟩ : Addr).add i = ⟨g', i, none⟩ := by rw [addr_add, Nat.zero_add]
          clear hbk
          go_wp2_with fail
          go_roundg (n - (i + 1))
          case measure => rw [HGK3.out]; omega
          case rel => exact ⟨i + 1, rfl, by omega, by go_num, HBt3.out.setCell (p := ⟨g', i, none⟩) (.inl rfl) _, fun g hg => ⟨(HK3.out g hg).1, (HK3.out g hg).2.set _ _ _⟩⟩
      obtain rfl : n = i := by omega
      have hlt3 : ¬ (n : Int) < (n : Int) := by omega
      go_wp2_with fail
      go_end0
      exact ⟨rfl, HBt3.out⟩
end Go.Proofs.Ytoaopjbgaehpfaa.G
end
section
/- WireEncodes: walked. -/
namespace Go.Proofs.Ytoaopjbgaehpfaa.G
open Go.RowKit
attribute [local simp, local go_sem] alloc_drewN setCell_drewN
set_option linter.unusedVariables false
set_option linter.unusedSimpArgs false
set_option maxRecDepth 100000
def encL (ts : List ByteArray) (js : List JobP) : List Int := if okP ts js = true then planW ts js else []
def encK (ts : List ByteArray) (js : List JobP) : Int := if okP ts js = true then 0 else 180
theorem EncPost.all {w : World} {ts : List ByteArray} {js : List JobP} {e : Ending} {w' : World} (h : EncPost w ts js e w') :
    But No w w' ∧ ∃ A c, e = .returned (.tuple #[.slice A (encL ts js).length c, .int .i64 (encK ts js)]) ∧ byE.Own w' w.heap.size (.slice A (encL ts js).length c) (encL ts js) := by
  obtain ⟨hb, ⟨hok, A, c, rfl, ho⟩ | ⟨hok, rfl⟩⟩ := h
  · refine ⟨hb, A, c, ?_⟩
    unfold encL encK
    rw [if_pos hok, if_pos hok]
    exact ⟨rfl, ho⟩
  · refine ⟨hb, none, 0, ?_⟩
    unfold encL encK
    rw [if_neg (by rw [hok]; exact Bool.false_ne_true), if_neg (by rw [hok]; exact Bool.false_ne_true)]
    exact ⟨rfl, El.own_nil w' _⟩
theorem encL_small (ts : List ByteArray) (js : List JobP) : (encL ts js).length ≤ 100000000000000 := by
  unfold encL
  by_cases h : okP ts js = true
  · rw [if_pos h]; exact planW_small h
  · rw [if_neg h]; exact Nat.zero_le _
theorem eqB_self (l : List Int) : eqB l l = true := decide_eq_true rfl
set_option maxHeartbeats 8000000 in
theorem wireEncodes0 {w : World} {At Aj : Option Addr} {ts : List ByteArray} {js : List JobP} (ct cj : Nat) (h : PlanIn w At ts Aj js) (hr : PlanRoom ts js) :
    Calls Try.prog 3 #[.agg #[.slice At ts.length ct, .slice Aj js.length cj]] w fun e w' => e = .returned (.bool true) ∧ But No w w' := by
  have HR := Lib.hid hr
  have hW0 := (But.refl No w).alloc (.cells #[.slice At ts.length ct, .slice Aj js.length cj] 25)
  have HPI := Lib.hid (h.but hW0)
  have hx := heap_alloc_new w (.cells #[.slice At ts.length ct, .slice Aj js.length cj] 25)
  have q0 := blkcell hx 0 (by simp)
  have q1 := blkcell hx 1 (by simp)
  simp only [List.getElem_toArray, List.getElem_cons_zero, List.getElem_cons_succ] at q0 q1
  have HB0 := Lib.hid hW0
  have HT := Lib.hid (fun W (hW : But No w W) => encode18 ct cj (h.but hW) (takes17 ct cj (h.but hW)))
  obtain ⟨p, hp⟩ : ∃ p, encL ts js = p := ⟨_, rfl⟩
  obtain ⟨K, hK⟩ : ∃ K, encK ts js = K := ⟨_, rfl⟩
  have HEN := Lib.hid (fun (e : Ending) (w1 w2 : World) (hh : EncPost w1 ts js e w2) => hh.all)
  rw [hp, hK] at HEN
  have hz := encL_small ts js
  rw [hp] at hz
  clear h hr hW0 hx hp hK
  go_enter Try.func3, Try.ntmps3
  go_wp2_with fail
  generalize w.alloc (.cells #[.slice At ts.length ct, .slice Aj js.length cj] 25) = W0 at *
  refine (HT.out _ HB0.out).mono ?_
  rintro e w1 he1
  obtain ⟨hb1, A1, c1, rfl, hown1⟩ := HEN.out _ _ _ he1
  have HO1 := Lib.hid hown1
  have HB1 := Lib.hid (HB0.out.trans hb1)
  have HPIa := Lib.hid (HPI.out.but hb1)
  have q0 := hb1.cell_some q0 (fun c => c)
  have q1 := hb1.cell_some q1 (fun c => c)
  clear hb1 hown1 he1
  go_wp2_with fail
  refine (copyPlan0 ct cj HPIa.out HR.out).mono ?_
  rintro e w2 ⟨hb2, A2, c2, B2, d2, rfl, hpl2⟩
  have hX := (But.refl No w2).alloc (.cells #[.slice A2 ts.length c2, .slice B2 js.length d2] 25)
  have hxb := heap_alloc_new w2 (.cells #[.slice A2 ts.length c2, .slice B2 js.length d2] 25)
  have x0 := blkcell hxb 0 (by simp)
  have x1 := blkcell hxb 1 (by simp)
  simp only [List.getElem_toArray, List.getElem_cons_zero, List.getElem_cons_succ] at x0 x1
  have HP2 := Lib.hid ((hpl2.inAs HPIa.out.lens).but hX)
  have hbX := hb2.trans hX
  have HB12 := Lib.hid hbX
  have HB2 := Lib.hid (HB1.out.trans hbX)
  have HPIb := Lib.hid (HPIa.out.but hbX)
  have q0 := hbX.cell_some q0 (fun c => c)
  have q1 := hbX.cell_some q1 (fun c => c)
  clear hb2 hpl2 hX hxb hbX
  go_wp2_with fail
  obtain ⟨gx, hgx⟩ : ∃ g, w2.heap.size = g := ⟨_, rfl⟩
  rw [hgx] at x0 x1 ⊢
  generalize w2.alloc (.cells #[.slice A2 ts.length c2, .slice B2 js.length d2] 25) = W2 at *
  clear hgx
  refine (enc_any c2 d2 HP2.out).mono ?_
  rintro e w3 he3
  obtain ⟨hb3, A3, c3, rfl, hown3⟩ := HEN.out _ _ _ he3
  have HO3 := Lib.hid hown3
  have HB3 := Lib.hid (HB2.out.trans hb3)
  have HB13 := Lib.hid (HB12.out.trans hb3)
  have HPIc := Lib.hid (HPIb.out.but hb3)
  have HP3 := Lib.hid (HP2.out.but hb3)
  have q0 := hb3.cell_some q0 (fun c => c)
  have q1 := hb3.cell_some q1 (fun c => c)
  have x0 := hb3.cell_some x0 (fun c => c)
  have x1 := hb3.cell_some x1 (fun c => c)
  clear hb3 hown3 he3
  go_wp2_with fail
  refine (samePlan0 c2 d2 ct cj HP3.out HPIc.out).mono ?_
  rintro e w4 ⟨bs, rfl, hbs, hb4⟩
  have hbs' : bs = true := hbs.2 ⟨rfl, rfl⟩
  subst hbs'
  have HB4 := Lib.hid (HB3.out.trans hb4)
  have HB34 := Lib.hid hb4
  have HB14 := Lib.hid (HB13.out.trans hb4)
  have HP4 := Lib.hid (HP3.out.but hb4)
  have x0 := hb4.cell_some x0 (fun c => c)
  have x1 := hb4.cell_some x1 (fun c => c)
  clear hb4 hbs q0 q1
  go_wp2_with fail
  refine (enc_any c2 d2 HP4.out).mono ?_
  rintro e w5 he5
  obtain ⟨hb5, A5, c5, rfl, hown5⟩ := HEN.out _ _ _ he5
  have HO5 := Lib.hid hown5
  have HB5 := Lib.hid (HB4.out.trans hb5)
  have HB15 := Lib.hid (HB14.out.trans hb5)
  have HB35 := Lib.hid (HB34.out.trans hb5)
  have HO1e := Lib.hid (HO1.out.new HB15.out)
  have HO3e := Lib.hid (HO3.out.new HB35.out)
  have hz2 : p.length ≤ 9223372036854775807 := by omega
  clear hb5 hown5 he5 x0 x1
  go_wp2_with fail
  refine (sameBytes0 A3 A1 c3 c1 p p _ HO3e.out.lies HO1e.out.lies hz2 hz2).mono ?_
  rw [eqB_self]
  rintro e w6 ⟨rfl, hq6⟩
  have hb6 : But No w5 w6 := drewn_but hq6
  have HO1f := Lib.hid (HO1e.out.new hb6)
  have HO3f := Lib.hid (HO3e.out.new hb6)
  have HO5f := Lib.hid (HO5.out.new hb6)
  have HB6 := Lib.hid (HB5.out.trans hb6)
  have HB56 := Lib.hid hb6
  clear hb6 hq6
  go_wp2_with fail
  refine (spoilBytes0 HO3f.out hz).mono ?_
  rintro e w7 ⟨rfl, hb7⟩
  have HO1g := Lib.hid (show byE.Own w7 W0.heap.size (.slice A1 p.length c1) p from own_at HO1f.out fun k hk => hb7.block k (HO1f.out.lt k hk).2 (fun hs => by
    have h1 := (HO1.out.lt k hk).2
    have h2 := (HO3.out.lt k hs).1
    have h3 := HB12.out.size
    omega))
  have HO5g := Lib.hid (show byE.Own w7 w4.heap.size (.slice A5 p.length c5) p from own_at HO5f.out fun k hk => hb7.block k (HO5f.out.lt k hk).2 (fun hs => by
    have h1 := (HO5.out.lt k hk).1
    have h2 := (HO3.out.lt k hs).2
    have h3 := HB34.out.size
    omega))
  have HB7 := Lib.hid (show But No w w7 from HB6.out.trans_ hb7 (fun b hb hs => by
    have h2 := (HO3.out.lt b hs).1
    have h3 := HB2.out.size
    omega))
  clear hb7
  go_wp2_with fail
  refine (sameBytes0 A5 A1 c5 c1 p p _ HO5g.out.lies HO1g.out.lies hz2 hz2).mono ?_
  rw [eqB_self]
  rintro e w8 ⟨rfl, hq8⟩
  have HB8 := Lib.hid (HB7.out.trans (drewn_but hq8))
  clear hq8
  go_wp2_with fail
  refine (awake0 _).mono ?_
  rintro e w9 ⟨rfl, hb9⟩
  have HB9 := Lib.hid (HB8.out.trans hb9)
  clear hb9
  go_wp2_with fail
  go_ret
  exact ⟨rfl, HB9.out⟩
end Go.Proofs.Ytoaopjbgaehpfaa.G
end
section
/- WireEncodes, as its row wants it. -/
namespace Go.Proofs.Ytoaopjbgaehpfaa.G
open Go.RowKit
set_option linter.unusedVariables false
set_option linter.unusedSimpArgs false
theorem wireEncodesR (W : World) (x : List ByteArray × List JobP) (v : Value) (hv : ∃ cs, v = .agg cs ∧ cs.size = Try.prog.cellsOf 25) (hK : seesPlan W x v.cells.toList) (hb : PlanU x) :
    Calls Try.prog 3 #[v] W fun e W' => e = .returned (.bool true) ∧ Below W.heap.size W W' := by
  obtain ⟨At, ct, Aj, cj, rfl, h1⟩ := seen_plan hv hK hb
  exact (wireEncodes0 ct cj h1 (planU_room hb)).mono fun e W' h => ⟨h.1, h.2.belowNo⟩
end Go.Proofs.Ytoaopjbgaehpfaa.G
end
