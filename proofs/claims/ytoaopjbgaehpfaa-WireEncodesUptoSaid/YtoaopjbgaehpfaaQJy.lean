/- wire's reader: a variable laid into its row. -/
import Derived.Test.YtoaopjbgaehpfaaQJx
namespace Go.Proofs.Ytoaopjbgaehpfaa.G
open Go.RowKit
attribute [local simp, local go_sem] alloc_drewN setCell_drewN
set_option linter.unusedVariables false
set_option linter.unusedSimpArgs false
set_option maxRecDepth 100000
def varR (bs : List Int) (a : Nat) : RR (Int × Int) := rbind (numberR bs a) fun n a1 => rbind (numberR bs a1) fun v a2 => .inr ((n, v), a2)
set_option maxHeartbeats 4000000 in
theorem jobVar {g : Nat} {A : Option Addr} {bs : List Int} {cp : Nat} {d : Int} {w0 : World} {rb o : Nat} {cs0 : Array Value} {X : List (Int × Int) → List (Int × Int) → World → Prop} {a : Nat} {l : List (Int × Int)} {w : World}
    (h : BoxInv g A bs cp d w0 rb o 52 cs0 7 pvE X a l w) (hB : Base A bs cp d) (hl : l.length < 268435456) (hcs : 7 < cs0.size) (ho : w0.heap.size ≤ o) (hgw : g < w0.heap.size) (hAo : ∀ ad, A = some ad → ad.block < w0.heap.size)
    (hX1 : ∀ ls lv W W', But (One g) W W' → X ls lv W → X ls lv W')
    (hX2 : ∀ ls lv x W W', But (One g) w0 W → (∃ cs, W.heap[o]? = some (.cells cs 52 (0, 0))) → X ls lv W → But (Lay g o 81 W) W W' → X (ls ++ [x]) (lv ++ [x]) W') :
    Calls Try.prog 62 #[.pointer (some ⟨rb, 0, none⟩), .pointer (some ⟨o, 0, none⟩)] w (OnePost (BadR g A bs cp d w0) (BoxInv g A bs cp d w0 rb o 52 cs0 7 pvE X) l (varR bs a)) := by
  obtain ⟨v, lv, hbox, hown, hlv, hx⟩ := h.box
  have hrd := h.rdr
  have hog : o ≠ g := by omega
  have hrb := h.rbx
  have hd := hB.dr
  have q1 : w.cell? ⟨rb, 0, none⟩ = some (.pointer (some ⟨g, 0, none⟩)) := blkcell hrb 0 (by simp)
  have HBOX := Lib.hid hbox
  have HOWN := Lib.hid hown
  have HX := Lib.hid hx
  have HRD := Lib.hid hrd
  have HB0 := Lib.hid h.but
  have HRB := Lib.hid hrb
  have hlvl : lv.length < 268435456 := by omega
  have HLV := Lib.hid hlv
  have hsz0 := h.but.size
  have hol := lt_of_block hbox
  have hrbl := lt_of_block hrb
  have hgl := hrd.lt
  have hrbg : rb ≠ g := by
    intro e
    have h1 := hrd.rd
    unfold RdIn at h1
    rw [← e, hrb] at h1
    injection h1 with h1
    injection h1 with _ h2
    exact absurd h2 (by decide)
  have hrbo : rb ≠ o := by
    intro e
    rw [e, hbox] at hrb
    injection hrb with hrb
    injection hrb with _ h2
    exact absurd h2 (by decide)
  have HX1 := Lib.hid hX1
  have HX2 := Lib.hid hX2
  obtain ⟨T, hT⟩ : ∃ r, varR bs a = r := ⟨_, rfl⟩
  rw [hT]
  unfold varR at hT
  have HBS := Lib.hid hB.bytes
  have HN1 := Lib.hid (number0 hrd.rd hrd.far hB.bytes hrd.le hd)
  obtain ⟨R, hR⟩ : ∃ R, numberR bs a = R := ⟨_, rfl⟩
  have hin := fun x a' (e : R = .inr (x, a')) => numberR_in hB.bytes (hR.trans e)
  rw [hR] at hT HN1
  obtain ⟨Av, nv, cv, hv⟩ : ∃ A n c, v = Value.slice A n c := (by obtain ⟨A, c, h⟩ := hown.slice; exact ⟨A, _, c, h⟩)
  subst hv
  clear h hbox hown hx hrd hrb hX1 hX2 hlv hR
  rcases R with ⟨c, a'⟩ | ⟨n, a1⟩
  · have E := Lib.hid (show T = .inl (c, a') from hT.symm)
    clear hT hin
    go_enter Try.func62, Try.ntmps62
    go_wp2_with (first | (go_at_call 59; refine HN1.out.mono ?_; rintro e w1 ⟨hb1, rfl, hr1⟩; (have HR1 := Lib.hid hr1); (have HB1 := Lib.hid hb1); clear hb1 hr1))
    exact ⟨rfl, by rw [E.out]; exact ⟨rfl, HR1.out, HB0.out.trans HB1.out⟩⟩
  have hin1 := hin n a1 rfl
  have hT2 : rbind (numberR bs a1) (fun v a2 => (.inr ((n, v), a2) : RR (Int × Int))) = T := hT
  have HN2 := Lib.hid (fun (W : World) (hW : Rdr g A bs cp d a1 W) => number0 hW.rd hW.far hB.bytes hW.le hd)
  obtain ⟨R2, hR2⟩ : ∃ R, numberR bs a1 = R := ⟨_, rfl⟩
  have hin2 := fun x a' (e : R2 = .inr (x, a')) => numberR_in hB.bytes (hR2.trans e)
  rw [hR2] at hT2 HN2
  clear hT hin hR2
  rcases R2 with ⟨c, a'⟩ | ⟨vl, a2⟩
  · have E := Lib.hid (show T = .inl (c, a') from hT2.symm)
    clear hT2 hin2
    go_enter Try.func62, Try.ntmps62
    go_wp2_with fail
    go_at_call 59
    refine HN1.out.mono ?_
    rintro e w1 ⟨hb1, rfl, hr1⟩
    have q2 : ∀ o1, (w1.alloc o1).cell? ⟨rb, 0, none⟩ = some (.pointer (some ⟨g, 0, none⟩)) := fun o1 => ((But.refl No w1).alloc o1).cell_some (hb1.cell_some q1 hrbg) (fun c => c)
    have hw1s := hb1.size
    have HR1 := Lib.hid (HRD.out.next hb1 hr1 hin1.2.2.2)
    have HB1 := Lib.hid hb1
    clear hb1 hr1
    simp only []
    go_wp2_with fail
    go_at_call 59
    refine (HN2.out _ (HR1.out.alloc _)).mono ?_
    rintro e w2 ⟨hb2, rfl, hr2⟩
    have HR2 := Lib.hid hr2
    have HB2 := Lib.hid ((HB1.out.alloc _).trans hb2)
    clear hb2 hr2
    exact ⟨rfl, by rw [E.out]; exact ⟨rfl, HR2.out, HB0.out.trans HB2.out⟩⟩
  have hin3 := hin2 vl a2 rfl
  have E := Lib.hid (show T = .inr ((n, vl), a2) from hT2.symm)
  clear hT2 hin2
  go_enter Try.func62, Try.ntmps62
  go_wp2_with fail
  go_at_call 59
  refine HN1.out.mono ?_
  rintro e w1 ⟨hb1, rfl, hr1⟩
  have q2 : ∀ o1, (w1.alloc o1).cell? ⟨rb, 0, none⟩ = some (.pointer (some ⟨g, 0, none⟩)) := fun o1 => ((But.refl No w1).alloc o1).cell_some (hb1.cell_some q1 hrbg) (fun c => c)
  have hw1s := hb1.size
  have HR1 := Lib.hid (HRD.out.next hb1 hr1 hin1.2.2.2)
  have HB1 := Lib.hid hb1
  clear hb1 hr1
  simp only []
  go_wp2_with fail
  go_at_call 59
  refine (HN2.out _ (HR1.out.alloc _)).mono ?_
  rintro e w2 ⟨hb2, rfl, hr2⟩
  have hw2s : w1.heap.size + 1 ≤ w2.heap.size := by (have := hb2.size; simp at this; omega)
  have hv2 := (hb2.block w1.heap.size (by simp) (by show ¬ w1.heap.size = g; omega)).trans (heap_alloc_new w1 _)
  have v20 : w2.cell? ⟨w1.heap.size, 0, none⟩ = some (.int .i64 n) := blkcell hv2 0 (by simp)
  have v21 : w2.cell? ⟨w1.heap.size, 1, none⟩ = some (.int .i64 0) := blkcell hv2 1 (by simp)
  have v2f : ∀ i, w2.frozen? ⟨w1.heap.size, i, none⟩ = false := blkfree hv2
  have HV2 := Lib.hid hv2
  have HR2 := Lib.hid ((HR1.out.alloc _).next hb2 hr2 hin3.2.2.2)
  have HB2 := Lib.hid ((HB1.out.alloc _).trans hb2)
  have hbo := ((HB1.out.alloc _).trans hb2).block o hol hog
  have HBO := Lib.hid (hbo.trans HBOX.out)
  have HRB2 := Lib.hid ((((HB1.out.alloc _).trans hb2).block rb hrbl hrbg).trans HRB.out)
  have o7 : w2.cell? ⟨o, 7, none⟩ = some (.slice Av nv cv) := by
    rw [cell_of_row w2 o 7 _ _ _ (hbo.trans HBOX.out)]
    simp [hcs]
  have hob : ¬ w1.heap.size = o := by omega
  have hob' : ¬ o = w1.heap.size := by omega
  have HOWN2 := Lib.hid (HOWN.out.but ((HB1.out.alloc _).trans hb2) (fun k h1 h2 (e : k = g) => by omega))
  clear hb2 hr2 hv2 hbo
  simp only []
  have hB3 := HB2.out.setCell (p := ⟨w1.heap.size, 1, none⟩) (.inr hw1s) (.int .i64 vl)
  have hown3 : pvE.Own (w2.setCell ⟨w1.heap.size, 1, none⟩ (.int .i64 vl)) w0.heap.size (.slice Av nv cv) lv := own_at HOWN2.out fun k hk => Below.heap_setCell _ _ _ _ (fun e => by
    have h1 := (HOWN.out.lt k hk).2
    change k = w1.heap.size at e
    omega)
  have HX3 := Lib.hid (HX1.out _ _ _ _ hB3 HX.out)
  have HB3 := Lib.hid hB3
  have HO3 := Lib.hid (blkfar HBO.out (p := ⟨w1.heap.size, 1, none⟩) hob' (.int .i64 vl))
  have HRB3 := Lib.hid (blkfar HRB2.out (p := ⟨w1.heap.size, 1, none⟩) (by show rb ≠ w1.heap.size; omega) (.int .i64 vl))
  have HR3 := Lib.hid (show Rdr g A bs cp d a2 (w2.setCell ⟨w1.heap.size, 1, none⟩ (.int .i64 vl)) from HR2.out.moved (S := fun k => w.heap.size ≤ k) ((But.refl _ w2).setCell (p := ⟨w1.heap.size, 1, none⟩) (.inl hw1s) _) (base := w0.heap.size) (fun k hk h => by omega) hgw hAo)
  have HOWN3 := Lib.hid hown3
  clear hB3 hown3
  obtain ⟨W, hW⟩ : ∃ W, w2.setCell ⟨w1.heap.size, 1, none⟩ (.int .i64 vl) = W := ⟨_, rfl⟩
  have hs3 : W.heap.size = w2.heap.size := by rw [← hW]; simp
  rw [hW] at HX3 HB3 HO3 HRB3 HR3 HOWN3
  have HW := Lib.hid hW
  have HTY := Lib.hid (El.typed HOWN3.out)
  have hrdl := HR3.out.lt
  clear hW
  go_wp2_with (
    at_builtin
    rw [HW.out]
    refine pvE.append1 rfl _ _ rfl rfl w0.heap.size (.slice Av nv cv) lv rfl (HOWN3.out.alloc _) W.heap.size (n, vl) #[.int .i64 n, .int .i64 vl] rfl (by rw [hs3]; rfl) (heap_alloc_new W _) (by show (lv.length + 1) * (16 + 1) ≤ _; omega) (by simp; omega) ?_
    intro g2 c2 w3 hown hgrow
    have hno : some o ≠ (Value.slice Av nv cv).ownBlock := fun e => by
      obtain ⟨_, _, cs, hc⟩ := HTY.out o e.symm
      rw [HO3.out] at hc
      injection hc with hc
      injection hc with _ hc
      exact absurd hc (by decide)
    have hnr : some rb ≠ (Value.slice Av nv cv).ownBlock := fun e => by
      obtain ⟨_, _, cs, hc⟩ := HTY.out rb e.symm
      rw [HRB3.out] at hc
      injection hc with hc
      injection hc with _ hc
      exact absurd hc (by decide)
    have HO4 := Lib.hid ((hgrow.block o (by simp; omega) hno).trans (blkold HO3.out (.cells #[.int .i64 n, .int .i64 vl] 81)))
    have HR4 := Lib.hid ((hgrow.block rb (by simp; omega) hnr).trans (blkold HRB3.out (.cells #[.int .i64 n, .int .i64 vl] 81)))
    have hB4 : But (Lay g o 81 W) W w3 := ((But.refl (Lay g o 81 W) W).alloc (.cells #[.int .i64 n, .int .i64 vl] 81)).grown hgrow (fun k hk => .inl (.inr (.inr (HTY.out k hk).2.2)))
    have hG4 : But (fun k => w0.heap.size ≤ k) W w3 := ((But.refl (fun k => w0.heap.size ≤ k) W).alloc (.cells #[.int .i64 n, .int .i64 vl] 81)).grown hgrow (fun k hk => .inl (HTY.out k hk).1)
    have q0 : w3.cell? ⟨o, 7, none⟩ = some (.slice Av nv cv) := by
      rw [cell_of_row w3 o 7 _ _ _ HO4.out]
      simp [hcs]
    have qf : w3.frozen? ⟨o, 7, none⟩ = false := blkfree HO4.out 7
    have HOW := Lib.hid hown
    have HB4 := Lib.hid hB4
    have HG4 := Lib.hid hG4
    clear hown hgrow hno hnr hB4 hG4)
  go_end0
  have hF1 := blkset HO4.out 7 (.slice (some ⟨g2, 0, none⟩) (lv.length + 1) c2)
  rw [setSame] at hF1
  have hL4 := HB4.out.setCell (p := ⟨o, 7, none⟩) (.inl (.inr (.inl rfl))) (.slice (some ⟨g2, 0, none⟩) (lv.length + 1) c2)
  have hG5 := HG4.out.setCell (p := ⟨o, 7, none⟩) (.inl ho) (.slice (some ⟨g2, 0, none⟩) (lv.length + 1) c2)
  rw [E.out]
  refine ⟨rfl, HR3.out.moved hG5 (fun k hk h => by omega) hgw hAo, (HB0.out.trans HB3.out).trans_ hG5 (fun k hk h => by omega), blkfar HR4.out (p := ⟨o, 7, none⟩) hrbo _, _, lv ++ [(n, vl)], hF1, ?_, by rw [List.length_append, List.length_append, HLV.out], HX2.out _ _ _ _ _ (HB0.out.trans HB3.out) ⟨_, HO3.out⟩ HX3.out hL4⟩
  have hh := HOW.out
  rw [show lv.length + 1 = (lv ++ [(n, vl)]).length from by rw [List.length_append]; rfl] at hh ⊢
  refine own_at hh fun k hk => Below.heap_setCell _ _ _ _ (fun e => ?_)
  obtain ⟨_, _, cs, hc⟩ := El.typed hh k hk
  rw [e, HO4.out] at hc
  injection hc with hc
  injection hc with _ hc
  exact absurd hc (by decide)
end Go.Proofs.Ytoaopjbgaehpfaa.G
