/- GlobClasses: a class matches just the bytes from its first to its last one, its opposite all others, neither a slash: for all bytes. -/
import Derived.Test.YtofgjlfgpnmmdaaPAx3
import Derived.Test.YtofgjlfgpnmmdaaGu
namespace Go.Proofs.Ytofgjlfgpnmmdaa.Pure
open Go.RowKit Go.Proofs.Ytofgjlfgpnmmdaa.PA Go.Proofs.YtofgjlfgpnmmdaaW.PrintWords Go.Proofs.YtofgjlfgpnmmdaaW.PrintLast Go.Proofs.YtofgjlfgpnmmdaaW.PrintMore
set_option linter.unusedVariables false
theorem z1 : (⟨#[91, 92]⟩ : ByteArray).size = 2 := rfl
theorem z2 : (⟨#[45, 92]⟩ : ByteArray).size = 2 := rfl
theorem z3 : (⟨#[93]⟩ : ByteArray).size = 1 := rfl
theorem z4 : (⟨#[91, 33, 92]⟩ : ByteArray).size = 3 := rfl
theorem z5 : (⟨#[120, 91, 92]⟩ : ByteArray).size = 3 := rfl
def one1 (x : Int) : ByteArray := strOfNums [x]
theorem one1_size (x : Int) : (strOfNums [x]).size = 1 := by rw [G.size_strOf]; rfl
theorem one1_bl {x : Int} (h : 0 ≤ x ∧ x ≤ 255) : G.bl (strOfNums [x]) = [x] := G.bl_strOf _ (fun c hc => by rw [List.mem_singleton.1 hc]; exact h)
theorem ranges_dash (lo hi : Int) (h : lo ≤ hi) : G.rangesL [92, lo, 45, 92, hi, 93] [] = some ([(lo, hi)], []) := by
  rw [G.ranges_two 92 [lo, 45, 92, hi, 93] [] (by decide) lo 92 [hi, 93] rfl (by decide)]
  show (if hi < lo then none else G.rangesL [93] ([] ++ [(lo, hi)])) = _
  rw [if_neg (by omega), G.ranges_stop 93 [] _ rfl, if_neg (by simp)]
  rfl
theorem parse_p (lo hi : Int) (h : lo ≤ hi) : G.parseL [91, 92, lo, 45, 92, hi, 93] = some [⟨false, G.classL [(lo, hi)] false⟩] := by
  rw [G.parse_class [92, lo, 45, 92, hi, 93] [(lo, hi)] [] (by rw [if_neg (by simp)]; exact ranges_dash lo hi h), G.parse_nil]
  rfl
theorem parse_q (lo hi : Int) (h : lo ≤ hi) : G.parseL [91, 33, 92, lo, 45, 92, hi, 93] = some [⟨false, G.classL [(lo, hi)] true⟩] := by
  rw [G.parse_class [33, 92, lo, 45, 92, hi, 93] [(lo, hi)] [] (by show G.rangesL [92, lo, 45, 92, hi, 93] [] = _; exact ranges_dash lo hi h), G.parse_nil]
  rfl
theorem bt_of {p : ByteArray} {l : List Int} (h : G.bl p = l) (i : Nat) (v : Int) (hv : l[i]? = some v) : G.bt p i = v := by
  have hi : i < p.size := by
    rw [← G.bl_length, h]
    exact (List.getElem?_eq_some_iff.1 hv).1
  have := G.bl_at p i hi
  rw [h, hv] at this
  exact (Option.some.inj this).symm
theorem check_turned (p : ByteArray) (lo hi : Int) (hlt : lo < hi) (h : G.bl p = [120, 91, 92, hi, 45, 92, lo, 93]) : G.checkRes p = (1, 60) := by
  have hs : p.size = 8 := by rw [← G.bl_length, h]; rfl
  have b0 := bt_of h 0 120 rfl
  have b1 := bt_of h 1 91 rfl
  have b2 := bt_of h 2 92 rfl
  have b3 := bt_of h 3 hi rfl
  have b4 := bt_of h 4 45 rfl
  have b5 := bt_of h 5 92 rfl
  have b6 := bt_of h 6 lo rfl
  have b7 := bt_of h 7 93 rfl
  have a0 : G.byteA p 0 = 1 := by unfold G.byteA; rw [b0]; rfl
  have y0 : G.byteB p 0 (-1) = -1 := by unfold G.byteB; rw [b0]; rfl
  have a2 : G.byteA p 2 = 4 := by unfold G.byteA; rw [b2, hs]; rfl
  have v2 : G.byteV p 2 = hi := by unfold G.byteV; rw [b2, hs, if_pos rfl, if_neg (by decide)]; exact b3
  have y2 : G.byteB p 2 (-1) = -1 := by unfold G.byteB; rw [b2, hs]; rfl
  have a5 : G.byteA p (4 + 1) = 7 := by unfold G.byteA; rw [b5, hs]; rfl
  have v5 : G.byteV p (4 + 1) = lo := by unfold G.byteV; rw [b5, hs, if_pos rfl, if_neg (by decide)]; exact b6
  have y5 : G.byteB p (4 + 1) (-1) = -1 := by unfold G.byteB; rw [b5, hs]; rfl
  have hn : G.notAt p (1 + 1) = false := by unfold G.notAt; rw [b2]; simp
  have hc : G.clsF p 1 (-1) = (7, 1, [(hi, lo)]) := by
    unfold G.clsF
    rw [hn]
    show G.classGo p 1 2 (-1) [] = _
    rw [G.classGo, dif_pos ⟨by omega, by rw [b2]; decide⟩, a2, if_pos ⟨by omega, b4, by rw [b5]; decide⟩, a5, v5, v2, y2, y5, if_pos hlt]
    rw [G.classGo, dif_neg (by rw [b7]; simp)]
    rfl
  have hg : (G.gSteps p).1 = 1 := by
    unfold G.gSteps
    rw [G.stepsGo, dif_pos (by omega), b0, if_neg (by decide), if_neg (by decide), if_neg (by decide), a0, y0]
    rw [G.stepsGo, dif_pos (by omega), b1, if_neg (by decide), if_neg (by decide), if_pos rfl, hc]
    rw [G.stepsGo, dif_neg (by simp only; omega)]
    unfold G.classBad
    rw [if_neg (by simp only; rw [hs]; simp)]
  unfold G.checkRes
  rw [if_neg (by omega), hg, if_pos (by decide)]
theorem classes_end (lo hi c : Int) (x y x16 : Bool) (h0 : 0 ≤ lo) (h1 : lo ≤ hi) (h2 : hi ≤ 255) (e1 : (x == x16) = true) (e2 : x16 = true → y = false) (e3 : x16 = false → y = (c != 47)) :
    shuttlelaw6_GlobClasses.j0 1 c lo hi x 0 y 0 x16 = some true := by
  have hbl : G.bl (((((⟨#[120, 91, 92]⟩ : ByteArray) ++ (strOfNums [hi])) ++ (⟨#[45, 92]⟩ : ByteArray)) ++ (strOfNums [lo])) ++ (⟨#[93]⟩ : ByteArray)) = [120, 91, 92, hi, 45, 92, lo, 93] := by
    rw [G.bl_append, G.bl_append, G.bl_append, G.bl_append, one1_bl ⟨by omega, h2⟩, one1_bl ⟨h0, by omega⟩]
    rfl
  have hsz : (((((⟨#[120, 91, 92]⟩ : ByteArray) ++ (strOfNums [hi])) ++ (⟨#[45, 92]⟩ : ByteArray)) ++ (strOfNums [lo])) ++ (⟨#[93]⟩ : ByteArray)).size = 8 := by
    rw [← G.bl_length, hbl]
    rfl
  simp only [shuttlelaw6_GlobClasses.j0, Option.bind_some]
  rw [if_pos (by rw [one1_size]; decide), if_pos (by simp only [ByteArray.size_append, one1_size, z5]; decide), if_pos (by simp only [ByteArray.size_append, one1_size, z5, z2]; decide), if_pos (by simp only [ByteArray.size_append, one1_size, z5, z2]; decide)]
  rw [G.check_f (by rw [hsz]; decide), G.awake_true]
  simp only [Option.bind_some]
  by_cases hlt : lo < hi
  · rw [if_pos hlt, check_turned _ lo hi hlt hbl]
    cases x16 with
    | true => simp [e1, e2 rfl]
    | false => simp [e1, e3 rfl]
  · rw [if_neg hlt]
    cases x16 with
    | true => simp [e1, e2 rfl]
    | false => simp [e1, e3 rfl]
theorem u8_range {a : Int} (h : (Lit.int .u8 a).wf = true) : 0 ≤ a ∧ a ≤ 255 := by
  have h1 : (decide ((0 : Int) ≤ a) && decide (a ≤ (255 : Int))) = true := h
  rw [Bool.and_eq_true] at h1
  exact ⟨of_decide_eq_true h1.1, of_decide_eq_true h1.2⟩
theorem GlobClasses : shuttlelaw6_GlobClasses.Pure := by
  intro a b c ha hb hc
  have ra : 0 ≤ a ∧ a ≤ 255 := u8_range ha
  have rb : 0 ≤ b ∧ b ≤ 255 := u8_range hb
  have rc : 0 ≤ c ∧ c ≤ 255 := u8_range hc
  have hlo : 0 ≤ mn a b ∧ mn a b ≤ mx a b ∧ mx a b ≤ 255 := by unfold mn mx; split <;> split <;> omega
  refine ⟨1, ?_⟩
  unfold shuttlelaw6_GlobClasses.f
  generalize mn a b = lo at *
  generalize mx a b = hi at *
  obtain ⟨h0, h1, h2⟩ := hlo
  have hp : G.bl (((((⟨#[91, 92]⟩ : ByteArray) ++ (strOfNums [lo])) ++ (⟨#[45, 92]⟩ : ByteArray)) ++ (strOfNums [hi])) ++ (⟨#[93]⟩ : ByteArray)) = [91, 92, lo, 45, 92, hi, 93] := by
    rw [G.bl_append, G.bl_append, G.bl_append, G.bl_append, one1_bl ⟨by omega, h2⟩, one1_bl ⟨h0, by omega⟩]
    rfl
  have hq : G.bl (((((⟨#[91, 33, 92]⟩ : ByteArray) ++ (strOfNums [lo])) ++ (⟨#[45, 92]⟩ : ByteArray)) ++ (strOfNums [hi])) ++ (⟨#[93]⟩ : ByteArray)) = [91, 33, 92, lo, 45, 92, hi, 93] := by
    rw [G.bl_append, G.bl_append, G.bl_append, G.bl_append, one1_bl ⟨by omega, h2⟩, one1_bl ⟨h0, by omega⟩]
    rfl
  have sp := congrArg List.length hp
  have sq := congrArg List.length hq
  rw [G.bl_length] at sp sq
  simp only [List.length_cons, List.length_nil] at sp sq
  have hin : ∀ no, G.classL [(lo, hi)] no c = ((c != 47) && ((decide (lo ≤ c) && decide (c ≤ hi)) != no)) := by
    intro no
    unfold G.classL
    simp
  have m1 : ∀ no, G.Mat [⟨false, G.classL [(lo, hi)] no⟩] (G.bl (strOfNums [c])) ↔ G.classL [(lo, hi)] no c = true := by
    intro no
    rw [one1_bl rc, G.Mat_single_one]
    constructor
    · rintro ⟨d, hd, h⟩
      simp only [List.cons.injEq, and_true] at hd
      rw [hd]
      exact h
    · intro h
      exact ⟨c, rfl, h⟩
  have q1 : G.matchRes (((((⟨#[91, 92]⟩ : ByteArray) ++ (strOfNums [lo])) ++ (⟨#[45, 92]⟩ : ByteArray)) ++ (strOfNums [hi])) ++ (⟨#[93]⟩ : ByteArray)) (strOfNums [c]) = (G.classL [(lo, hi)] false c, 0) :=
    G.match_eq (by omega) (by rw [hp]; exact parse_p lo hi h1) _ (m1 false).symm
  have q2 : G.matchRes (((((⟨#[91, 33, 92]⟩ : ByteArray) ++ (strOfNums [lo])) ++ (⟨#[45, 92]⟩ : ByteArray)) ++ (strOfNums [hi])) ++ (⟨#[93]⟩ : ByteArray)) (strOfNums [c]) = (G.classL [(lo, hi)] true c, 0) :=
    G.match_eq (by omega) (by rw [hq]; exact parse_q lo hi h1) _ (m1 true).symm
  simp only [Option.bind_some]
  rw [if_pos (by rw [one1_size]; decide), if_pos (by simp only [ByteArray.size_append, one1_size, z1]; decide), if_pos (by simp only [ByteArray.size_append, one1_size, z1, z2]; decide), if_pos (by simp only [ByteArray.size_append, one1_size, z1, z2]; decide),
    if_pos (by rw [one1_size]; decide), if_pos (by simp only [ByteArray.size_append, one1_size, z4]; decide), if_pos (by simp only [ByteArray.size_append, one1_size, z4, z2]; decide), if_pos (by simp only [ByteArray.size_append, one1_size, z4, z2]; decide)]
  rw [G.match_f (by omega) (by rw [one1_size]; decide), G.match_f (by omega) (by rw [one1_size]; decide), q1, q2, hin, hin]
  simp only [Option.bind_some]
  by_cases c1 : c ≥ lo
  · rw [if_pos c1]
    by_cases c2 : c ≤ hi
    · rw [if_pos c2]
      refine classes_end lo hi c _ _ _ h0 h1 h2 ?_ ?_ ?_
      · simp [c1, c2]
      · simp [c1, c2]
      · intro h
        simp [h]
    · rw [if_neg c2]
      refine classes_end lo hi c _ _ _ h0 h1 h2 ?_ ?_ ?_
      · simp [c2]
      · intro h; cases h
      · simp [c2]
  · rw [if_neg c1]
    have c1' : ¬ lo ≤ c := c1
    refine classes_end lo hi c _ _ _ h0 h1 h2 ?_ ?_ ?_
    · simp [c1']
    · intro h; cases h
    · simp [c1']
end Go.Proofs.Ytofgjlfgpnmmdaa.Pure
