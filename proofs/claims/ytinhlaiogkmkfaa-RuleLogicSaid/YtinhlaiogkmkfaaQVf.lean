/- rule's run: variables, and what each kind of step does. -/
import Derived.Test.YtinhlaiogkmkfaaQVe
import Derived.Test.YtinhlaiogkmkfaaQGj
import Derived.Deep.RegionHeld3
namespace Go.Proofs.Ytinhlaiogkmkfaa.G
open Go.RowKit
attribute [local simp, local go_sem] alloc_drewN setCell_drewN
set_option linter.unusedVariables false
set_option linter.unusedSimpArgs false
set_option maxRecDepth 100000
def getV : List (ByteArray × ByteArray) → ByteArray → Option ByteArray
  | [], _ => none
  | p :: r, name => if p.1.toList == name.toList then some p.2 else getV r name
def getT (vs : List (ByteArray × ByteArray)) (name : ByteArray) : ByteArray := (getV vs name).getD mt
def getB (vs : List (ByteArray × ByteArray)) (name : ByteArray) : Bool := (getV vs name).isSome
/-- Variables that come in. -/
def VarsIn (w : World) (A : Option Addr) (t : List (ByteArray × ByteArray)) : Prop := ∀ i (hi : i < t.length), ∃ ad, A = some ad ∧ w.cell? (ad.add (i * 2)) = some (.string t[i].1) ∧ w.cell? ⟨(ad.add (i * 2)).block, (ad.add (i * 2)).off + 1, none⟩ = some (.string t[i].2)
theorem VarsIn.later {w w' : World} {A : Option Addr} {t : List (ByteArray × ByteArray)} {S : Nat → Prop} (h : VarsIn w A t) (hb : But S w w') (hS : ∀ k, k < w.heap.size → ¬ S k) : VarsIn w' A t := by
  intro i hi
  obtain ⟨ad, e, h1, h2⟩ := h i hi
  exact ⟨ad, e, hb.cell_some h1 (hS _ (World.block_lt_of_cell? w _ h1)), hb.cell_some h2 (hS _ (World.block_lt_of_cell? w _ h2))⟩
def GetAt (w : World) (t : List (ByteArray × ByteArray)) (name : ByteArray) (F : Option ByteArray) (gk : Nat) (v10 : Value) (wr : World) : Prop :=
  ∃ i : Nat, gk = t.length - i ∧ i ≤ t.length ∧ v10 = .int .i64 (i : Int) ∧ But No w wr ∧ getV (t.drop i) name = F
set_option maxHeartbeats 4000000 in
theorem varsGet0 (A : Option Addr) (c : Nat) (t : List (ByteArray × ByteArray)) (name : ByteArray) (w : World) (hT : VarsIn w A t) (hc : t.length ≤ 9223372036854775807) :
    Calls Try.prog 63 #[.slice A t.length c, .string name] w fun e w' => e = .returned (.tuple #[.string (getT t name), .bool (getB t name)]) ∧ But No w w' := by
  have hc2 : t.length ≤ 9223372036854775807 := by omega
  obtain ⟨F, hF⟩ : ∃ F, getV t name = F := ⟨_, rfl⟩
  have HF := Lib.hid hF
  have HT := Lib.hid hT
  have H1 := Lib.hid (show getT t name = F.getD mt from by unfold getT; rw [hF])
  have H2 := Lib.hid (show getB t name = F.isSome from by unfold getB; rw [hF])
  clear hF hT
  go_enter Try.func63, Try.ntmps63
  go_wp2_with fail
  go_loopg [10] t.length (fun gk v10 wr => GetAt w t name F gk v10 wr)
  case atStart => exact ⟨0, rfl, Nat.zero_le _, rfl, But.refl _ _, HF.out⟩
  case round =>
    obtain ⟨i, hgk, hi, rfl, hb, hR⟩ := hrel
    have HGK := Lib.hid hgk
    have HR := Lib.hid hR
    have HBt := Lib.hid hb
    clear hgk hR hb
    by_cases hlt : i < t.length
    · obtain ⟨ad, hA, k1, k2⟩ := HT.out i hlt
      have hd : t.drop i = t[i] :: t.drop (i + 1) := List.drop_eq_getElem_cons hlt
      cases hA
      have k1' := HBt.out.cell_some k1 (fun c => c)
      have k2' := HBt.out.cell_some k2 (fun c => c)
      have hlt' : (i : Int) < (t.length : Int) := by omega
      have dl : decide ((i : Int) < (t.length : Int)) = true := by simp; omega
      obtain ⟨⟨nm, vl⟩, hq⟩ : ∃ q, t[i] = q := ⟨_, rfl⟩
      rw [hq] at k1' k2' hd
      clear k1 k2 hq
      cases he : (nm.toList == name.toList) with
      | true =>
        have HE := Lib.hid (show F = some vl from by rw [← HR.out, hd]; unfold getV; rw [if_pos he])
        go_wp2_with fail
        go_ret2
        exact ⟨by rw [H1.out, H2.out, HE.out]; rfl, HBt.out.alloc _⟩
      | false =>
        have HE := Lib.hid (show getV (t.drop (i + 1)) name = F from by rw [← HR.out, hd]; conv => rhs; unfold getV
                                                                        rw [if_neg (by rw [he]; simp)])
        go_wp2_with fail
        go_roundg (t.length - (i + 1))
        case measure => rw [HGK.out]; omega
        case rel => exact ⟨i + 1, rfl, by omega, by go_num, HBt.out.alloc _, HE.out⟩
    · obtain rfl : i = t.length := by omega
      have hlt' : ¬ (t.length : Int) < (t.length : Int) := by omega
      have HE := Lib.hid (show F = none from by rw [← HR.out, List.drop_length]; rfl)
      go_wp2_with fail
      go_ret2
      exact ⟨by rw [H1.out, H2.out, HE.out]; rfl, HBt.out⟩
theorem fieldV0 (x : ByteArray) (y : Bool) (w : World) : (Instr.field 93 (.agg #[.string x, .bool y]) 0).run Try.prog w = .ok (.string x) w := by kernel_rfl
theorem fieldV1 (x : ByteArray) (y : Bool) (w : World) : (Instr.field 93 (.agg #[.string x, .bool y]) 1).run Try.prog w = .ok (.bool y) w := by kernel_rfl
theorem fr_one {g B : Nat} : ∀ k, One g k → Fr g B k := fun _ h => .inl h
theorem xbox {w w1 : World} {g : Nat} {k : Int} {tx : ByteArray} (hb : But (One g) (w.alloc (.cells #[.int .i64 k, .string tx] 45)) w1) (hg : g < w.heap.size) : w1.cell? ⟨w.heap.size, 0, none⟩ = some (.int .i64 k) := by
  have h1 := hb.block w.heap.size (by simp) (fun c => by unfold One at c; omega)
  rw [heap_alloc_new] at h1
  rw [cell_of_row w1 _ 0 _ _ _ h1]
  rfl
set_option maxHeartbeats 4000000 in
theorem do_literal (g B : Nat) (vv v : Value) (s : List Vl) (k : Int) (tx : ByteArray) (w : World) (h : Rn w g B vv v s) (hst : s.length ≤ 10000) :
    Calls Try.prog 72 #[.pointer (some ⟨g, 0, none⟩), .agg #[.int .i64 k, .string tx]] w (RnPost w (Fr g B) g B vv (s ++ [⟨tx, false⟩]) (.tuple #[])) := by
  have HW := Lib.hid h
  have hgl := h.lt
  have hne : ¬ w.heap.size = g := by omega
  clear h
  go_enter Try.func72, Try.ntmps72
  go_wp2_with fail
  refine (push0 g B vv v s tx false _ (HW.out.new ((But.refl No w).alloc _)) (by omega)).mono ?_
  rintro e w1 ⟨rfl, hb, v', hR⟩
  go_wp2_with fail
  go_end0
  exact ⟨rfl, ((But.refl _ w).alloc _).trans hb, v', hR⟩
set_option maxHeartbeats 4000000 in
theorem do_true (g B : Nat) (vv v : Value) (s : List Vl) (tx : ByteArray) (w : World) (h : Rn w g B vv v s) (hst : s.length ≤ 10000) :
    Calls Try.prog 75 #[.pointer (some ⟨g, 0, none⟩), .agg #[.int .i64 4, .string tx]] w (RnPost w (Fr g B) g B vv (s ++ [⟨mt, true⟩]) (.tuple #[])) := by
  have HW := Lib.hid h
  have hgl := h.lt
  have hne : ¬ w.heap.size = g := by omega
  clear h
  go_enter Try.func75, Try.ntmps75
  go_wp2_with fail
  refine (push0 g B vv v s mt true _ (HW.out.new ((But.refl No w).alloc _)) (by omega)).mono ?_
  rintro e w1 ⟨rfl, hb, v', hR⟩
  go_wp2_with fail
  go_end0
  exact ⟨rfl, ((But.refl _ w).alloc _).trans hb, v', hR⟩
set_option maxHeartbeats 4000000 in
theorem do_false (g B : Nat) (vv v : Value) (s : List Vl) (tx : ByteArray) (w : World) (h : Rn w g B vv v s) (hst : s.length ≤ 10000) :
    Calls Try.prog 75 #[.pointer (some ⟨g, 0, none⟩), .agg #[.int .i64 5, .string tx]] w (RnPost w (Fr g B) g B vv (s ++ [⟨mt, false⟩]) (.tuple #[])) := by
  have HW := Lib.hid h
  have hgl := h.lt
  have hne : ¬ w.heap.size = g := by omega
  clear h
  go_enter Try.func75, Try.ntmps75
  go_wp2_with fail
  refine (push0 g B vv v s mt false _ (HW.out.new ((But.refl No w).alloc _)) (by omega)).mono ?_
  rintro e w1 ⟨rfl, hb, v', hR⟩
  go_wp2_with fail
  go_end0
  exact ⟨rfl, ((But.refl _ w).alloc _).trans hb, v', hR⟩
set_option maxHeartbeats 4000000 in
theorem do_variable (g B : Nat) (vv v : Value) (s : List Vl) (A : Option Addr) (c : Nat) (vs : List (ByteArray × ByteArray)) (k : Int) (tx : ByteArray) (w : World) (h : Rn w g B vv v s) (hst : s.length ≤ 10000) (hvv : vv = .slice A vs.length c) (hV : VarsIn w A vs) (hvl : vs.length ≤ 9223372036854775807) :
    Calls Try.prog 73 #[.pointer (some ⟨g, 0, none⟩), .agg #[.int .i64 k, .string tx]] w (RnPost w (Fr g B) g B vv (s ++ [⟨getT vs tx, false⟩]) (.tuple #[])) := by
  have HW := Lib.hid h
  have hgl := h.lt
  have hne : ¬ w.heap.size = g := by omega
  subst hvv
  have h0 := h.cell0
  have HV := Lib.hid (hV.later (S := No) (((But.refl No w).alloc (.cells #[.int .i64 k, .string tx] 45)).drew) (fun _ _ c => c))
  clear h hV
  go_enter Try.func73, Try.ntmps73
  go_wp2_with fail
  go_region_held3 (fun w' => w'.cell? ⟨g, 0, none⟩ = some (.slice A vs.length c) ∧ w'.cell? ⟨w.heap.size, 1, none⟩ = some (.string tx)) (first | go_keep | exact ⟨k1, k2⟩) ((go_at_call 63; refine (varsGet0 A c vs tx _ HV.out hvl).mono ?_; rintro e w1 ⟨rfl, hb1⟩; (have k1 := hb1.cell_some (p := ⟨g, 0, none⟩) (v := .slice A vs.length c) (HW.out.new (((But.refl No w).alloc _).drew)).cell0 (fun c => c)); (have k2 : w1.cell? ⟨w.heap.size, 1, none⟩ = some (.string tx) := hb1.cell_some (p := ⟨w.heap.size, 1, none⟩) ((cell_of_row _ _ 1 _ _ _ (heap_alloc_new w _)).trans rfl) (fun c => c))))
  all_goals
    go_wp2_with fail
    refine (push0 g B _ v s (getT vs tx) false _ ((HW.out.new (((But.refl No w).alloc _).drew)).new hb1) (by omega)).mono ?_
    rintro e w2 ⟨rfl, hb, v', hR⟩
    go_wp2_with fail
    go_end0
    exact ⟨rfl, ((((But.refl _ w).alloc _).drew).trans_ hb1 (fun _ _ c => c.elim)).trans hb, v', hR⟩
set_option maxHeartbeats 4000000 in
theorem do_defined (g B : Nat) (vv v : Value) (s : List Vl) (A : Option Addr) (c : Nat) (vs : List (ByteArray × ByteArray)) (k : Int) (tx : ByteArray) (w : World) (h : Rn w g B vv v s) (hst : s.length ≤ 10000) (hvv : vv = .slice A vs.length c) (hV : VarsIn w A vs) (hvl : vs.length ≤ 9223372036854775807) :
    Calls Try.prog 74 #[.pointer (some ⟨g, 0, none⟩), .agg #[.int .i64 k, .string tx]] w (RnPost w (Fr g B) g B vv (s ++ [⟨mt, getB vs tx⟩]) (.tuple #[])) := by
  have HW := Lib.hid h
  have hgl := h.lt
  have hne : ¬ w.heap.size = g := by omega
  subst hvv
  have h0 := h.cell0
  have HV := Lib.hid (hV.later (S := No) (((But.refl No w).alloc (.cells #[.int .i64 k, .string tx] 45)).drew) (fun _ _ c => c))
  clear h hV
  go_enter Try.func74, Try.ntmps74
  go_wp2_with fail
  go_region_held3 (fun w' => w'.cell? ⟨g, 0, none⟩ = some (.slice A vs.length c) ∧ w'.cell? ⟨w.heap.size, 1, none⟩ = some (.string tx)) (first | go_keep | exact ⟨k1, k2⟩) ((go_at_call 63; refine (varsGet0 A c vs tx _ HV.out hvl).mono ?_; rintro e w1 ⟨rfl, hb1⟩; (have k1 := hb1.cell_some (p := ⟨g, 0, none⟩) (v := .slice A vs.length c) (HW.out.new (((But.refl No w).alloc _).drew)).cell0 (fun c => c)); (have k2 : w1.cell? ⟨w.heap.size, 1, none⟩ = some (.string tx) := hb1.cell_some (p := ⟨w.heap.size, 1, none⟩) ((cell_of_row _ _ 1 _ _ _ (heap_alloc_new w _)).trans rfl) (fun c => c))))
  all_goals
    go_wp2_with fail
    refine (push0 g B _ v s mt (getB vs tx) _ ((HW.out.new (((But.refl No w).alloc _).drew)).new hb1) (by omega)).mono ?_
    rintro e w2 ⟨rfl, hb, v', hR⟩
    go_wp2_with fail
    go_end0
    exact ⟨rfl, ((((But.refl _ w).alloc _).drew).trans_ hb1 (fun _ _ c => c.elim)).trans hb, v', hR⟩
set_option maxHeartbeats 4000000 in
theorem do_truth (g B : Nat) (vv v : Value) (s : List Vl) (a : Vl) (k : Int) (tx : ByteArray) (w : World) (h : Rn w g B vv v (s ++ [a])) (hst : s.length ≤ 10000) :
    Calls Try.prog 76 #[.pointer (some ⟨g, 0, none⟩), .agg #[.int .i64 k, .string tx]] w (RnPost w (Fr g B) g B vv (s ++ [⟨mt, !a.text.toList.isEmpty⟩]) (.tuple #[])) := by
  have HW := Lib.hid h
  have hgl := h.lt
  have hne : ¬ w.heap.size = g := by omega
  clear h
  go_enter Try.func76, Try.ntmps76
  go_wp2_with fail
  refine (pop0 g B vv v s a _ (HW.out.new ((But.refl No w).alloc _)) (by omega)).mono ?_
  rintro e w1 ⟨rfl, hb1, v1, hR1⟩
  have HR1 := Lib.hid hR1
  have HB1 := Lib.hid hb1
  have hf0 := fieldV0
  have hf1 := fieldV1
  clear hR1 hb1
  go_wp2_with fail
  refine (push0 g B vv v1 s mt (!a.text.toList.isEmpty) _ HR1.out (by omega)).mono ?_
  rintro e w2 ⟨rfl, hb, v', hR⟩
  go_wp2_with fail
  go_end0
  exact ⟨rfl, (((But.refl _ w).alloc _).trans_ HB1.out (fun k _ c => fr_one k c)).trans hb, v', hR⟩
set_option maxHeartbeats 4000000 in
theorem do_not (g B : Nat) (vv v : Value) (s : List Vl) (a : Vl) (k : Int) (tx : ByteArray) (w : World) (h : Rn w g B vv v (s ++ [a])) (hst : s.length ≤ 10000) :
    Calls Try.prog 79 #[.pointer (some ⟨g, 0, none⟩), .agg #[.int .i64 k, .string tx]] w (RnPost w (Fr g B) g B vv (s ++ [⟨mt, !a.ok⟩]) (.tuple #[])) := by
  have HW := Lib.hid h
  have hgl := h.lt
  have hne : ¬ w.heap.size = g := by omega
  clear h
  go_enter Try.func79, Try.ntmps79
  go_wp2_with fail
  refine (pop0 g B vv v s a _ (HW.out.new ((But.refl No w).alloc _)) (by omega)).mono ?_
  rintro e w1 ⟨rfl, hb1, v1, hR1⟩
  have HR1 := Lib.hid hR1
  have HB1 := Lib.hid hb1
  have hf0 := fieldV0
  have hf1 := fieldV1
  clear hR1 hb1
  go_wp2_with fail
  refine (push0 g B vv v1 s mt (!a.ok) _ HR1.out (by omega)).mono ?_
  rintro e w2 ⟨rfl, hb, v', hR⟩
  go_wp2_with fail
  go_end0
  exact ⟨rfl, (((But.refl _ w).alloc _).trans_ HB1.out (fun k _ c => fr_one k c)).trans hb, v', hR⟩
set_option maxHeartbeats 4000000 in
theorem do_eq (g B : Nat) (vv v : Value) (s : List Vl) (a b : Vl) (tx : ByteArray) (w : World) (h : Rn w g B vv v (s ++ [a] ++ [b])) (hst : s.length ≤ 10000) :
    Calls Try.prog 77 #[.pointer (some ⟨g, 0, none⟩), .agg #[.int .i64 7, .string tx]] w (RnPost w (Fr g B) g B vv (s ++ [⟨mt, a.text.toList == b.text.toList⟩]) (.tuple #[])) := by
  have HW := Lib.hid h
  have hgl := h.lt
  have hne : ¬ w.heap.size = g := by omega
  clear h
  go_enter Try.func77, Try.ntmps77
  go_wp2_with fail
  refine (pop0 g B vv v (s ++ [a]) b _ (HW.out.new ((But.refl No w).alloc _)) (by simp; omega)).mono ?_
  rintro e w1 ⟨rfl, hb1, v1, hR1⟩
  have HR1 := Lib.hid hR1
  have HB1 := Lib.hid hb1
  clear hR1 hb1
  go_wp2_with fail
  refine (pop0 g B vv v1 s a _ HR1.out (by omega)).mono ?_
  rintro e w2 ⟨rfl, hb2, v2, hR2⟩
  have HR2 := Lib.hid hR2
  have HB2 := Lib.hid (HB1.out.trans hb2)
  have hx := xbox HB2.out hgl
  have hs2 := HB2.out.size
  have hs3 : w.heap.size < w2.heap.size := by simp at hs2; omega
  have hne1 : ¬ w.heap.size = w2.heap.size := by omega
  have hne2 : ¬ w.heap.size = w2.heap.size + 1 := by omega
  clear hR2 hb2 hs2
  go_wp2_with fail
  have hbn : But No w2 ((w2.alloc (.cells #[.string b.text, .bool b.ok] 93)).alloc (.cells #[.string a.text, .bool a.ok] 93)) := ((But.refl No w2).alloc _).alloc _
  refine (push0 g B vv v2 s mt (a.text.toList == b.text.toList) _ (HR2.out.new hbn) (by omega)).mono ?_
  rintro e w4 ⟨rfl, hb, v', hR⟩
  go_wp2_with fail
  go_end0
  exact ⟨rfl, ((((But.refl _ w).alloc _).trans_ HB2.out (fun k _ c => fr_one k c)).trans_ hbn (fun _ _ c => c.elim)).trans hb, v', hR⟩
set_option maxHeartbeats 4000000 in
theorem do_ne (g B : Nat) (vv v : Value) (s : List Vl) (a b : Vl) (tx : ByteArray) (w : World) (h : Rn w g B vv v (s ++ [a] ++ [b])) (hst : s.length ≤ 10000) :
    Calls Try.prog 77 #[.pointer (some ⟨g, 0, none⟩), .agg #[.int .i64 8, .string tx]] w (RnPost w (Fr g B) g B vv (s ++ [⟨mt, !(a.text.toList == b.text.toList)⟩]) (.tuple #[])) := by
  have HW := Lib.hid h
  have hgl := h.lt
  have hne : ¬ w.heap.size = g := by omega
  clear h
  go_enter Try.func77, Try.ntmps77
  go_wp2_with fail
  refine (pop0 g B vv v (s ++ [a]) b _ (HW.out.new ((But.refl No w).alloc _)) (by simp; omega)).mono ?_
  rintro e w1 ⟨rfl, hb1, v1, hR1⟩
  have HR1 := Lib.hid hR1
  have HB1 := Lib.hid hb1
  clear hR1 hb1
  go_wp2_with fail
  refine (pop0 g B vv v1 s a _ HR1.out (by omega)).mono ?_
  rintro e w2 ⟨rfl, hb2, v2, hR2⟩
  have HR2 := Lib.hid hR2
  have HB2 := Lib.hid (HB1.out.trans hb2)
  have hx := xbox HB2.out hgl
  have hs2 := HB2.out.size
  have hs3 : w.heap.size < w2.heap.size := by simp at hs2; omega
  have hne1 : ¬ w.heap.size = w2.heap.size := by omega
  have hne2 : ¬ w.heap.size = w2.heap.size + 1 := by omega
  clear hR2 hb2 hs2
  go_wp2_with fail
  have hbn : But No w2 ((w2.alloc (.cells #[.string b.text, .bool b.ok] 93)).alloc (.cells #[.string a.text, .bool a.ok] 93)) := ((But.refl No w2).alloc _).alloc _
  refine (push0 g B vv v2 s mt (!(a.text.toList == b.text.toList)) _ (HR2.out.new hbn) (by omega)).mono ?_
  rintro e w4 ⟨rfl, hb, v', hR⟩
  go_wp2_with fail
  go_end0
  exact ⟨rfl, ((((But.refl _ w).alloc _).trans_ HB2.out (fun k _ c => fr_one k c)).trans_ hbn (fun _ _ c => c.elim)).trans hb, v', hR⟩
set_option maxHeartbeats 4000000 in
theorem do_match (g B : Nat) (vv v : Value) (s : List Vl) (a b : Vl) (tx : ByteArray) (w : World) (h : Rn w g B vv v (s ++ [a] ++ [b])) (hst : s.length ≤ 10000) (has : a.text.size ≤ 9223372036854775807) (hbs : b.text.size ≤ 9223372036854775807) :
    Calls Try.prog 78 #[.pointer (some ⟨g, 0, none⟩), .agg #[.int .i64 9, .string tx]] w (RnPost w (Fr g B) g B vv (s ++ [⟨mt, (matchRes b.text a.text).1⟩]) (.tuple #[])) := by
  have HW := Lib.hid h
  have hgl := h.lt
  have hne : ¬ w.heap.size = g := by omega
  clear h
  go_enter Try.func78, Try.ntmps78
  go_wp2_with fail
  refine (pop0 g B vv v (s ++ [a]) b _ (HW.out.new ((But.refl No w).alloc _)) (by simp; omega)).mono ?_
  rintro e w1 ⟨rfl, hb1, v1, hR1⟩
  have HR1 := Lib.hid hR1
  have HB1 := Lib.hid hb1
  clear hR1 hb1
  go_wp2_with fail
  refine (pop0 g B vv v1 s a _ HR1.out (by omega)).mono ?_
  rintro e w2 ⟨rfl, hb2, v2, hR2⟩
  have HR2 := Lib.hid hR2
  have HB2 := Lib.hid (HB1.out.trans hb2)
  have hx := xbox HB2.out hgl
  have hs2 := HB2.out.size
  have hs3 : w.heap.size < w2.heap.size := by simp at hs2; omega
  have hne1 : ¬ w.heap.size = w2.heap.size := by omega
  have hne2 : ¬ w.heap.size = w2.heap.size + 1 := by omega
  clear hR2 hb2 hs2
  obtain ⟨m1, hm1⟩ : ∃ m1, (matchRes b.text a.text).1 = m1 := ⟨_, rfl⟩
  obtain ⟨m2, hm2⟩ : ∃ m2, (matchRes b.text a.text).2 = m2 := ⟨_, rfl⟩
  have hmm := fun w3 => match0 b.text a.text w3 hbs has
  rw [hm1, hm2] at hmm
  have HMM := Lib.hid hmm
  have HM1 := Lib.hid hm1
  clear hmm hm1 hm2
  go_wp2_with fail
  refine (HMM.out _).mono ?_
  rintro e w3 ⟨rfl, hb3⟩
  have hbn := (((But.refl No w2).alloc (.cells #[.string b.text, .bool b.ok] 93)).alloc (.cells #[.string a.text, .bool a.ok] 93)).trans hb3
  have hx3 := hbn.cell_some hx (fun c => c)
  clear hb3 hx
  go_wp2_with fail
  refine (push0 g B vv v2 s mt m1 _ (HR2.out.new hbn) (by omega)).mono ?_
  rintro e w4 ⟨rfl, hb, v', hR⟩
  go_wp2_with fail
  go_end0
  exact ⟨rfl, ((((But.refl _ w).alloc _).trans_ HB2.out (fun k _ c => fr_one k c)).trans_ hbn (fun _ _ c => c.elim)).trans hb, v', by rw [HM1.out]; exact hR⟩
set_option maxHeartbeats 4000000 in
theorem do_unlike (g B : Nat) (vv v : Value) (s : List Vl) (a b : Vl) (tx : ByteArray) (w : World) (h : Rn w g B vv v (s ++ [a] ++ [b])) (hst : s.length ≤ 10000) (has : a.text.size ≤ 9223372036854775807) (hbs : b.text.size ≤ 9223372036854775807) :
    Calls Try.prog 78 #[.pointer (some ⟨g, 0, none⟩), .agg #[.int .i64 10, .string tx]] w (RnPost w (Fr g B) g B vv (s ++ [⟨mt, !(matchRes b.text a.text).1⟩]) (.tuple #[])) := by
  have HW := Lib.hid h
  have hgl := h.lt
  have hne : ¬ w.heap.size = g := by omega
  clear h
  go_enter Try.func78, Try.ntmps78
  go_wp2_with fail
  refine (pop0 g B vv v (s ++ [a]) b _ (HW.out.new ((But.refl No w).alloc _)) (by simp; omega)).mono ?_
  rintro e w1 ⟨rfl, hb1, v1, hR1⟩
  have HR1 := Lib.hid hR1
  have HB1 := Lib.hid hb1
  clear hR1 hb1
  go_wp2_with fail
  refine (pop0 g B vv v1 s a _ HR1.out (by omega)).mono ?_
  rintro e w2 ⟨rfl, hb2, v2, hR2⟩
  have HR2 := Lib.hid hR2
  have HB2 := Lib.hid (HB1.out.trans hb2)
  have hx := xbox HB2.out hgl
  have hs2 := HB2.out.size
  have hs3 : w.heap.size < w2.heap.size := by simp at hs2; omega
  have hne1 : ¬ w.heap.size = w2.heap.size := by omega
  have hne2 : ¬ w.heap.size = w2.heap.size + 1 := by omega
  clear hR2 hb2 hs2
  obtain ⟨m1, hm1⟩ : ∃ m1, (matchRes b.text a.text).1 = m1 := ⟨_, rfl⟩
  obtain ⟨m2, hm2⟩ : ∃ m2, (matchRes b.text a.text).2 = m2 := ⟨_, rfl⟩
  have hmm := fun w3 => match0 b.text a.text w3 hbs has
  rw [hm1, hm2] at hmm
  have HMM := Lib.hid hmm
  have HM1 := Lib.hid hm1
  clear hmm hm1 hm2
  go_wp2_with fail
  refine (HMM.out _).mono ?_
  rintro e w3 ⟨rfl, hb3⟩
  have hbn := (((But.refl No w2).alloc (.cells #[.string b.text, .bool b.ok] 93)).alloc (.cells #[.string a.text, .bool a.ok] 93)).trans hb3
  have hx3 := hbn.cell_some hx (fun c => c)
  clear hb3 hx
  go_wp2_with fail
  refine (push0 g B vv v2 s mt (!m1) _ (HR2.out.new hbn) (by omega)).mono ?_
  rintro e w4 ⟨rfl, hb, v', hR⟩
  go_wp2_with fail
  go_end0
  exact ⟨rfl, ((((But.refl _ w).alloc _).trans_ HB2.out (fun k _ c => fr_one k c)).trans_ hbn (fun _ _ c => c.elim)).trans hb, v', by rw [HM1.out]; exact hR⟩
set_option maxHeartbeats 4000000 in
theorem do_and (g B : Nat) (vv v : Value) (s : List Vl) (a b : Vl) (k : Int) (tx : ByteArray) (w : World) (h : Rn w g B vv v (s ++ [a] ++ [b])) (hst : s.length ≤ 10000) :
    Calls Try.prog 80 #[.pointer (some ⟨g, 0, none⟩), .agg #[.int .i64 k, .string tx]] w (RnPost w (Fr g B) g B vv (s ++ [⟨mt, a.ok && b.ok⟩]) (.tuple #[])) := by
  obtain ⟨at_, aok⟩ := a
  obtain ⟨bt_, bok⟩ := b
  cases aok <;> cases bok
  · have HW := Lib.hid h
    have hgl := h.lt
    have hne : ¬ w.heap.size = g := by omega
    clear h
    go_enter Try.func80, Try.ntmps80
    go_wp2_with fail
    refine (pop0 g B vv v (s ++ [⟨at_, false⟩]) ⟨bt_, false⟩ _ (HW.out.new ((But.refl No w).alloc _)) (by simp; omega)).mono ?_
    rintro e w1 ⟨rfl, hb1, v1, hR1⟩
    have HR1 := Lib.hid hR1
    have HB1 := Lib.hid hb1
    clear hR1 hb1
    go_wp2_with fail
    refine (pop0 g B vv v1 s ⟨at_, false⟩ _ HR1.out (by omega)).mono ?_
    rintro e w2 ⟨rfl, hb2, v2, hR2⟩
    have HR2 := Lib.hid hR2
    have HB2 := Lib.hid (HB1.out.trans hb2)
    have hx := xbox HB2.out hgl
    have hs2 := HB2.out.size
    have hs3 : w.heap.size < w2.heap.size := by simp at hs2; omega
    have hne1 : ¬ w.heap.size = w2.heap.size := by omega
    have hne2 : ¬ w.heap.size = w2.heap.size + 1 := by omega
    clear hR2 hb2 hs2
    go_wp2_with fail
    have hbn : But No w2 ((w2.alloc (.cells #[.string bt_, .bool false] 93)).alloc (.cells #[.string at_, .bool false] 93)) := ((But.refl No w2).alloc _).alloc _
    refine (push0 g B vv v2 s mt false _ (HR2.out.new hbn) (by omega)).mono ?_
    rintro e w4 ⟨rfl, hb, v', hR⟩
    go_wp2_with fail
    go_end0
    exact ⟨rfl, ((((But.refl _ w).alloc _).trans_ HB2.out (fun k _ c => fr_one k c)).trans_ hbn (fun _ _ c => c.elim)).trans hb, v', hR⟩
  · have HW := Lib.hid h
    have hgl := h.lt
    have hne : ¬ w.heap.size = g := by omega
    clear h
    go_enter Try.func80, Try.ntmps80
    go_wp2_with fail
    refine (pop0 g B vv v (s ++ [⟨at_, false⟩]) ⟨bt_, true⟩ _ (HW.out.new ((But.refl No w).alloc _)) (by simp; omega)).mono ?_
    rintro e w1 ⟨rfl, hb1, v1, hR1⟩
    have HR1 := Lib.hid hR1
    have HB1 := Lib.hid hb1
    clear hR1 hb1
    go_wp2_with fail
    refine (pop0 g B vv v1 s ⟨at_, false⟩ _ HR1.out (by omega)).mono ?_
    rintro e w2 ⟨rfl, hb2, v2, hR2⟩
    have HR2 := Lib.hid hR2
    have HB2 := Lib.hid (HB1.out.trans hb2)
    have hx := xbox HB2.out hgl
    have hs2 := HB2.out.size
    have hs3 : w.heap.size < w2.heap.size := by simp at hs2; omega
    have hne1 : ¬ w.heap.size = w2.heap.size := by omega
    have hne2 : ¬ w.heap.size = w2.heap.size + 1 := by omega
    clear hR2 hb2 hs2
    go_wp2_with fail
    have hbn : But No w2 ((w2.alloc (.cells #[.string bt_, .bool true] 93)).alloc (.cells #[.string at_, .bool false] 93)) := ((But.refl No w2).alloc _).alloc _
    refine (push0 g B vv v2 s mt false _ (HR2.out.new hbn) (by omega)).mono ?_
    rintro e w4 ⟨rfl, hb, v', hR⟩
    go_wp2_with fail
    go_end0
    exact ⟨rfl, ((((But.refl _ w).alloc _).trans_ HB2.out (fun k _ c => fr_one k c)).trans_ hbn (fun _ _ c => c.elim)).trans hb, v', hR⟩
  · have HW := Lib.hid h
    have hgl := h.lt
    have hne : ¬ w.heap.size = g := by omega
    clear h
    go_enter Try.func80, Try.ntmps80
    go_wp2_with fail
    refine (pop0 g B vv v (s ++ [⟨at_, true⟩]) ⟨bt_, false⟩ _ (HW.out.new ((But.refl No w).alloc _)) (by simp; omega)).mono ?_
    rintro e w1 ⟨rfl, hb1, v1, hR1⟩
    have HR1 := Lib.hid hR1
    have HB1 := Lib.hid hb1
    clear hR1 hb1
    go_wp2_with fail
    refine (pop0 g B vv v1 s ⟨at_, true⟩ _ HR1.out (by omega)).mono ?_
    rintro e w2 ⟨rfl, hb2, v2, hR2⟩
    have HR2 := Lib.hid hR2
    have HB2 := Lib.hid (HB1.out.trans hb2)
    have hx := xbox HB2.out hgl
    have hs2 := HB2.out.size
    have hs3 : w.heap.size < w2.heap.size := by simp at hs2; omega
    have hne1 : ¬ w.heap.size = w2.heap.size := by omega
    have hne2 : ¬ w.heap.size = w2.heap.size + 1 := by omega
    clear hR2 hb2 hs2
    go_wp2_with fail
    have hbn : But No w2 ((w2.alloc (.cells #[.string bt_, .bool false] 93)).alloc (.cells #[.string at_, .bool true] 93)) := ((But.refl No w2).alloc _).alloc _
    refine (push0 g B vv v2 s mt false _ (HR2.out.new hbn) (by omega)).mono ?_
    rintro e w4 ⟨rfl, hb, v', hR⟩
    go_wp2_with fail
    go_end0
    exact ⟨rfl, ((((But.refl _ w).alloc _).trans_ HB2.out (fun k _ c => fr_one k c)).trans_ hbn (fun _ _ c => c.elim)).trans hb, v', hR⟩
  · have HW := Lib.hid h
    have hgl := h.lt
    have hne : ¬ w.heap.size = g := by omega
    clear h
    go_enter Try.func80, Try.ntmps80
    go_wp2_with fail
    refine (pop0 g B vv v (s ++ [⟨at_, true⟩]) ⟨bt_, true⟩ _ (HW.out.new ((But.refl No w).alloc _)) (by simp; omega)).mono ?_
    rintro e w1 ⟨rfl, hb1, v1, hR1⟩
    have HR1 := Lib.hid hR1
    have HB1 := Lib.hid hb1
    clear hR1 hb1
    go_wp2_with fail
    refine (pop0 g B vv v1 s ⟨at_, true⟩ _ HR1.out (by omega)).mono ?_
    rintro e w2 ⟨rfl, hb2, v2, hR2⟩
    have HR2 := Lib.hid hR2
    have HB2 := Lib.hid (HB1.out.trans hb2)
    have hx := xbox HB2.out hgl
    have hs2 := HB2.out.size
    have hs3 : w.heap.size < w2.heap.size := by simp at hs2; omega
    have hne1 : ¬ w.heap.size = w2.heap.size := by omega
    have hne2 : ¬ w.heap.size = w2.heap.size + 1 := by omega
    clear hR2 hb2 hs2
    go_wp2_with fail
    have hbn : But No w2 ((w2.alloc (.cells #[.string bt_, .bool true] 93)).alloc (.cells #[.string at_, .bool true] 93)) := ((But.refl No w2).alloc _).alloc _
    refine (push0 g B vv v2 s mt true _ (HR2.out.new hbn) (by omega)).mono ?_
    rintro e w4 ⟨rfl, hb, v', hR⟩
    go_wp2_with fail
    go_end0
    exact ⟨rfl, ((((But.refl _ w).alloc _).trans_ HB2.out (fun k _ c => fr_one k c)).trans_ hbn (fun _ _ c => c.elim)).trans hb, v', hR⟩
set_option maxHeartbeats 4000000 in
theorem do_or (g B : Nat) (vv v : Value) (s : List Vl) (a b : Vl) (k : Int) (tx : ByteArray) (w : World) (h : Rn w g B vv v (s ++ [a] ++ [b])) (hst : s.length ≤ 10000) :
    Calls Try.prog 81 #[.pointer (some ⟨g, 0, none⟩), .agg #[.int .i64 k, .string tx]] w (RnPost w (Fr g B) g B vv (s ++ [⟨mt, a.ok || b.ok⟩]) (.tuple #[])) := by
  obtain ⟨at_, aok⟩ := a
  obtain ⟨bt_, bok⟩ := b
  cases aok <;> cases bok
  · have HW := Lib.hid h
    have hgl := h.lt
    have hne : ¬ w.heap.size = g := by omega
    clear h
    go_enter Try.func81, Try.ntmps81
    go_wp2_with fail
    refine (pop0 g B vv v (s ++ [⟨at_, false⟩]) ⟨bt_, false⟩ _ (HW.out.new ((But.refl No w).alloc _)) (by simp; omega)).mono ?_
    rintro e w1 ⟨rfl, hb1, v1, hR1⟩
    have HR1 := Lib.hid hR1
    have HB1 := Lib.hid hb1
    clear hR1 hb1
    go_wp2_with fail
    refine (pop0 g B vv v1 s ⟨at_, false⟩ _ HR1.out (by omega)).mono ?_
    rintro e w2 ⟨rfl, hb2, v2, hR2⟩
    have HR2 := Lib.hid hR2
    have HB2 := Lib.hid (HB1.out.trans hb2)
    have hx := xbox HB2.out hgl
    have hs2 := HB2.out.size
    have hs3 : w.heap.size < w2.heap.size := by simp at hs2; omega
    have hne1 : ¬ w.heap.size = w2.heap.size := by omega
    have hne2 : ¬ w.heap.size = w2.heap.size + 1 := by omega
    clear hR2 hb2 hs2
    go_wp2_with fail
    have hbn : But No w2 ((w2.alloc (.cells #[.string bt_, .bool false] 93)).alloc (.cells #[.string at_, .bool false] 93)) := ((But.refl No w2).alloc _).alloc _
    refine (push0 g B vv v2 s mt false _ (HR2.out.new hbn) (by omega)).mono ?_
    rintro e w4 ⟨rfl, hb, v', hR⟩
    go_wp2_with fail
    go_end0
    exact ⟨rfl, ((((But.refl _ w).alloc _).trans_ HB2.out (fun k _ c => fr_one k c)).trans_ hbn (fun _ _ c => c.elim)).trans hb, v', hR⟩
  · have HW := Lib.hid h
    have hgl := h.lt
    have hne : ¬ w.heap.size = g := by omega
    clear h
    go_enter Try.func81, Try.ntmps81
    go_wp2_with fail
    refine (pop0 g B vv v (s ++ [⟨at_, false⟩]) ⟨bt_, true⟩ _ (HW.out.new ((But.refl No w).alloc _)) (by simp; omega)).mono ?_
    rintro e w1 ⟨rfl, hb1, v1, hR1⟩
    have HR1 := Lib.hid hR1
    have HB1 := Lib.hid hb1
    clear hR1 hb1
    go_wp2_with fail
    refine (pop0 g B vv v1 s ⟨at_, false⟩ _ HR1.out (by omega)).mono ?_
    rintro e w2 ⟨rfl, hb2, v2, hR2⟩
    have HR2 := Lib.hid hR2
    have HB2 := Lib.hid (HB1.out.trans hb2)
    have hx := xbox HB2.out hgl
    have hs2 := HB2.out.size
    have hs3 : w.heap.size < w2.heap.size := by simp at hs2; omega
    have hne1 : ¬ w.heap.size = w2.heap.size := by omega
    have hne2 : ¬ w.heap.size = w2.heap.size + 1 := by omega
    clear hR2 hb2 hs2
    go_wp2_with fail
    have hbn : But No w2 ((w2.alloc (.cells #[.string bt_, .bool true] 93)).alloc (.cells #[.string at_, .bool false] 93)) := ((But.refl No w2).alloc _).alloc _
    refine (push0 g B vv v2 s mt true _ (HR2.out.new hbn) (by omega)).mono ?_
    rintro e w4 ⟨rfl, hb, v', hR⟩
    go_wp2_with fail
    go_end0
    exact ⟨rfl, ((((But.refl _ w).alloc _).trans_ HB2.out (fun k _ c => fr_one k c)).trans_ hbn (fun _ _ c => c.elim)).trans hb, v', hR⟩
  · have HW := Lib.hid h
    have hgl := h.lt
    have hne : ¬ w.heap.size = g := by omega
    clear h
    go_enter Try.func81, Try.ntmps81
    go_wp2_with fail
    refine (pop0 g B vv v (s ++ [⟨at_, true⟩]) ⟨bt_, false⟩ _ (HW.out.new ((But.refl No w).alloc _)) (by simp; omega)).mono ?_
    rintro e w1 ⟨rfl, hb1, v1, hR1⟩
    have HR1 := Lib.hid hR1
    have HB1 := Lib.hid hb1
    clear hR1 hb1
    go_wp2_with fail
    refine (pop0 g B vv v1 s ⟨at_, true⟩ _ HR1.out (by omega)).mono ?_
    rintro e w2 ⟨rfl, hb2, v2, hR2⟩
    have HR2 := Lib.hid hR2
    have HB2 := Lib.hid (HB1.out.trans hb2)
    have hx := xbox HB2.out hgl
    have hs2 := HB2.out.size
    have hs3 : w.heap.size < w2.heap.size := by simp at hs2; omega
    have hne1 : ¬ w.heap.size = w2.heap.size := by omega
    have hne2 : ¬ w.heap.size = w2.heap.size + 1 := by omega
    clear hR2 hb2 hs2
    go_wp2_with fail
    have hbn : But No w2 ((w2.alloc (.cells #[.string bt_, .bool false] 93)).alloc (.cells #[.string at_, .bool true] 93)) := ((But.refl No w2).alloc _).alloc _
    refine (push0 g B vv v2 s mt true _ (HR2.out.new hbn) (by omega)).mono ?_
    rintro e w4 ⟨rfl, hb, v', hR⟩
    go_wp2_with fail
    go_end0
    exact ⟨rfl, ((((But.refl _ w).alloc _).trans_ HB2.out (fun k _ c => fr_one k c)).trans_ hbn (fun _ _ c => c.elim)).trans hb, v', hR⟩
  · have HW := Lib.hid h
    have hgl := h.lt
    have hne : ¬ w.heap.size = g := by omega
    clear h
    go_enter Try.func81, Try.ntmps81
    go_wp2_with fail
    refine (pop0 g B vv v (s ++ [⟨at_, true⟩]) ⟨bt_, true⟩ _ (HW.out.new ((But.refl No w).alloc _)) (by simp; omega)).mono ?_
    rintro e w1 ⟨rfl, hb1, v1, hR1⟩
    have HR1 := Lib.hid hR1
    have HB1 := Lib.hid hb1
    clear hR1 hb1
    go_wp2_with fail
    refine (pop0 g B vv v1 s ⟨at_, true⟩ _ HR1.out (by omega)).mono ?_
    rintro e w2 ⟨rfl, hb2, v2, hR2⟩
    have HR2 := Lib.hid hR2
    have HB2 := Lib.hid (HB1.out.trans hb2)
    have hx := xbox HB2.out hgl
    have hs2 := HB2.out.size
    have hs3 : w.heap.size < w2.heap.size := by simp at hs2; omega
    have hne1 : ¬ w.heap.size = w2.heap.size := by omega
    have hne2 : ¬ w.heap.size = w2.heap.size + 1 := by omega
    clear hR2 hb2 hs2
    go_wp2_with fail
    have hbn : But No w2 ((w2.alloc (.cells #[.string bt_, .bool true] 93)).alloc (.cells #[.string at_, .bool true] 93)) := ((But.refl No w2).alloc _).alloc _
    refine (push0 g B vv v2 s mt true _ (HR2.out.new hbn) (by omega)).mono ?_
    rintro e w4 ⟨rfl, hb, v', hR⟩
    go_wp2_with fail
    go_end0
    exact ⟨rfl, ((((But.refl _ w).alloc _).trans_ HB2.out (fun k _ c => fr_one k c)).trans_ hbn (fun _ _ c => c.elim)).trans hb, v', hR⟩
end Go.Proofs.Ytinhlaiogkmkfaa.G
