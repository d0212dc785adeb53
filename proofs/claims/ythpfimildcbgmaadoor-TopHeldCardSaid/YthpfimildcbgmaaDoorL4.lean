/-
TopHeld answers true.
-/
import Derived.Test.YthpfimildcbgmaaDoorC7
import Derived.Test.YthpfimildcbgmaaDoorSC
namespace Go.Proofs.YthpfimildcbgmaaDoor
open Go Ev
set_option linter.all false
set_option maxHeartbeats 4000000
set_option maxRecDepth 5000
attribute [local irreducible] codeL condL loopL callL callV evOps evDraw rdK effK wayK oneK wayD oneD rdD effD chks chkB res

abbrev scB (d : Int) : Box := ⟨[.int .i64 1, .int .i64 1048576, .int .i64 d], 0, false, false⟩
theorem held_loop {p d tp : Int} {l : List Int} {c : Bool} (ix lo hi : Int → Int) (hp : 1 ≤ p ∧ p ≤ 65536)
    (hix : ∀ v H, 0 ≤ v → v ≤ p → callV (CL lore) 16 [.agg [.int .i64 1, .int .i64 1048576, .int .i64 d], .int .i64 v] H = some (.tup [.int .i64 (ix v), .int .i64 0], H))
    (hbd : ∀ v H, 0 ≤ v → v ≤ p → callV (CL lore) 20 [.agg [.int .i64 1, .int .i64 1048576, .int .i64 d], .int .i64 (ix v)] H = some (.tup [.int .i64 (lo v), .int .i64 (hi v), .int .i64 0], H))
    (hfit : ∀ v, 0 ≤ v → v ≤ p → ix v ≤ tp ∧ lo v ≤ v ∧ v ≤ hi v) {K : Kont} {R : Option V} (a : Code) (ha : loopIn Tryd.prog 4 11 = some a)
    (hK : ∀ (j : Int) (H : Heap), ans (K (.exit 0) (Sl 120 .wild [(0, .int .i64 p), (6, .bool false), (7, .ptr 2 0), (9, .ptr 3 0), (10, .int .i64 tp), (51, .sl (l.map (V.int .i64)) 1 c), (52, .int .i64 l.length), (53, .int .i64 j)]) H) = R) :
    ∀ (n : Nat) (j : Nat) (H : Heap) (D G : Int), l.length - j = n → j ≤ l.length → j ≤ 5001 → Sm H 0 1 2 D G p → H[3]? = some (scB d) → 0 ≤ G ∧ G ≤ D ∧ D ≤ p + G ∧ D ≤ j →
      ans (loopL lore 4 a (Sl 120 .wild [(0, .int .i64 p), (6, .bool false), (7, .ptr 2 0), (9, .ptr 3 0), (10, .int .i64 tp), (51, .sl (l.map (V.int .i64)) 1 c), (52, .int .i64 l.length), (53, .int .i64 (j : Nat))]) H K) = R := by
  have ha' := ha
  have hk := loop_key ha
  simp only [loopIn, Tryd.func4, Tryd.f4, loopAt, Option.bind_some, codeKey, if_true, Option.some.injEq, Nat.reduceEqDiff, if_false] at ha
  intro n
  induction n with
  | zero =>
    intro j H D G hn hj hj2 hs h3 hb
    have hlt : ¬ (j : Int) < (l.length : Int) := by omega
    rw [loopL_step' ha]
    repeat' (first | (refine cond_by (F := ans) (fun _ => ?_) (fun _ => ?_)) | (refine wayK_by (F := ans) (fun _ hb_ => ?_) (fun _ hb_ => ?_) <;> simp only [hb_]) | (refine wayK_byN (F := ans) (fun _ hb_ => ?_) (fun _ hb_ => ?_) <;> simp only [hb_]) | (refine wayD_by (F := ans) (fun _ hb_ => ?_) (fun _ hb_ => ?_) <;> simp only [hb_]) | (refine wayD_byN (F := ans) (fun _ hb_ => ?_) (fun _ hb_ => ?_) <;> simp only [hb_]) | (refine rdK_by (F := ans) (fun _ => ?_) (fun _ => ?_)) | (refine effK_by (F := ans) (fun _ => ?_) (fun _ => ?_)) | (refine effK_by2 (F := ans) (fun _ => ?_) (fun _ => ?_)) | (refine rdD_by (F := ans) (fun _ => ?_) (fun _ => ?_)) | (refine effD_by (F := ans) (fun _ => ?_) (fun _ => ?_)) | (refine effD_by2 (F := ans) (fun _ => ?_) (fun _ => ?_)) | simp -implicitDefEqProofs (disch := first | omega | (simp only [List.length_append, List.length_cons, List.length_nil, List.length_drop, List.length_take]; omega)) only [evs, tys, lors, Nat.reduceAdd, Nat.reduceSub, Nat.reduceMul, Nat.reducePow, Nat.reduceBEq, Nat.reduceLT, Nat.reduceLeDiff, Nat.reduceEqDiff, Int.reduceLT, Int.reduceLE, Int.reduceEq, Int.reduceNe, Int.reduceToNat, Int.reduceAdd, Int.reduceSub, Int.reduceMul, Int.reducePow, Int.reduceDiv, Int.reduceMod, Int.reduceNeg, reduceCtorEq, codeKey, List.contains, List.elem, Ev.load, peek, pack, storeV, fieldAddr, field, cvB, hk, hlt, decide_false, hK])
  | succ n ih =>
    intro j H D G hn hj hj2 hs h3 hb
    obtain ⟨b1, b2, b3, b4⟩ := hb
    have hlt : (j : Int) < (l.length : Int) := by omega
    have hjl : j < l.length := by omega
    have el : (l.map (V.int .i64))[j]? = some (.int .i64 l[j]) := by
      rw [List.getElem?_map, List.getElem?_eq_getElem hjl]; rfl
    have ell : (l.map (V.int .i64)).length = l.length := List.length_map ..
    have hj0 : (0 : Int) ≤ (j : Int) := Int.natCast_nonneg j
    generalize l[j] = w at el
    have hbox : ∀ L : Heap, (H ++ L)[3]? = some (scB d) := fun L => (oldg (lt_of_get h3) L).trans h3
    by_cases hgt : 5000 < (j : Int)
    · rw [loopL_step' ha]
      repeat' (first | (refine cond_by (F := ans) (fun _ => ?_) (fun _ => ?_)) | (refine wayK_by (F := ans) (fun _ hb_ => ?_) (fun _ hb_ => ?_) <;> simp only [hb_]) | (refine wayK_byN (F := ans) (fun _ hb_ => ?_) (fun _ hb_ => ?_) <;> simp only [hb_]) | (refine wayD_by (F := ans) (fun _ hb_ => ?_) (fun _ hb_ => ?_) <;> simp only [hb_]) | (refine wayD_byN (F := ans) (fun _ hb_ => ?_) (fun _ hb_ => ?_) <;> simp only [hb_]) | (refine rdK_by (F := ans) (fun _ => ?_) (fun _ => ?_)) | (refine effK_by (F := ans) (fun _ => ?_) (fun _ => ?_)) | (refine effK_by2 (F := ans) (fun _ => ?_) (fun _ => ?_)) | (refine rdD_by (F := ans) (fun _ => ?_) (fun _ => ?_)) | (refine effD_by (F := ans) (fun _ => ?_) (fun _ => ?_)) | (refine effD_by2 (F := ans) (fun _ => ?_) (fun _ => ?_)) | simp -implicitDefEqProofs (disch := first | omega | (simp only [List.length_append, List.length_cons, List.length_nil, List.length_drop, List.length_take]; omega)) only [evs, tys, lors, Nat.reduceAdd, Nat.reduceSub, Nat.reduceMul, Nat.reducePow, Nat.reduceBEq, Nat.reduceLT, Nat.reduceLeDiff, Nat.reduceEqDiff, Int.reduceLT, Int.reduceLE, Int.reduceEq, Int.reduceNe, Int.reduceToNat, Int.reduceAdd, Int.reduceSub, Int.reduceMul, Int.reducePow, Int.reduceDiv, Int.reduceMod, Int.reduceNeg, reduceCtorEq, codeKey, List.contains, List.elem, Ev.load, peek, pack, storeV, fieldAddr, field, cvB, hk, hlt, hgt, el, ell, hj0, decide_true, hK])
    · have hne := lt_of_get h3
      -- one that enters
      obtain ⟨H1, a1, w1, e1, s1, f1⟩ := try_cv hs ⟨⟨b1, b2⟩, by omega, by omega, by omega⟩
      have q1 : ∃ D1, (if p + G ≤ D then D else D + 1) = D1 ∧ D ≤ D1 ∧ D1 ≤ D + 1 ∧ D1 ≤ p + G := by
        by_cases h : p + G ≤ D
        · exact ⟨D, if_pos h, by omega, by omega, by omega⟩
        · exact ⟨D + 1, if_neg h, by omega, by omega, by omega⟩
      obtain ⟨D1, q1, q2, q3, q4⟩ := q1
      rw [q1] at s1
      obtain ⟨H2, e2, s2, f2⟩ := inside_cv s1 ⟨⟨b1, by omega⟩, by omega, by omega, by omega⟩
      have m1 : min D1 (p + G) - G = D1 - G := by omega
      rw [m1] at e2
      have n1 : 0 ≤ D1 - G ∧ D1 - G ≤ p := by omega
      have g1 : H1[3]? = some (scB d) := by rw [f1.2 3 hne (by decide) (by omega)]; exact h3
      have g2 : H2[3]? = some (scB d) := by rw [f2.2 3 (lt_of_get g1) (by decide) (by have := lt_of_get g1; omega)]; exact g1
      -- one that leaves
      obtain ⟨H3, a3, w3, e3, s3, f3⟩ := leave_cv hs ⟨⟨b1, b2⟩, by omega, by omega, by omega⟩
      have r1 : ∃ G1, (if D ≤ G then G else G + 1) = G1 ∧ G ≤ G1 ∧ G1 ≤ D := by
        by_cases h : D ≤ G
        · exact ⟨G, if_pos h, by omega, by omega⟩
        · exact ⟨G + 1, if_neg h, by omega, by omega⟩
      obtain ⟨G1, r1, r2, r3⟩ := r1
      rw [r1] at s3
      obtain ⟨H4, e4, s4, f4⟩ := inside_cv s3 ⟨⟨by omega, by omega⟩, by omega, by omega, by omega⟩
      have m2 : min D (p + G1) - G1 = D - G1 := by omega
      rw [m2] at e4
      have n2 : 0 ≤ D - G1 ∧ D - G1 ≤ p := by omega
      have g3 : H3[3]? = some (scB d) := by rw [f3.2 3 hne (by decide) (by omega)]; exact h3
      have g4 : H4[3]? = some (scB d) := by rw [f4.2 3 (lt_of_get g3) (by decide) (by have := lt_of_get g3; omega)]; exact g3
      have ih1 := ih (j + 1) H2 D1 G (by omega) (by omega) (by omega) s2 g2 ⟨b1, by omega, by omega, by omega⟩
      have ih2 := ih (j + 1) H4 D G1 (by omega) (by omega) (by omega) s4 g4 ⟨by omega, by omega, by omega, by omega⟩
      have hj1 : ((j + 1 : Nat) : Int) = (j : Int) + 1 := by omega
      rw [hj1] at ih1 ih2
      have t1 := f17_cv e1
      have t2 := f19_cv e2
      have t3 := f18_cv e3
      have t4 := f19_cv e4
      have u1 := hix (D1 - G) H2 n1.1 n1.2
      have u2 := hbd (D1 - G) H2 n1.1 n1.2
      have u3 := hix (D - G1) H4 n2.1 n2.2
      have u4 := hbd (D - G1) H4 n2.1 n2.2
      obtain ⟨x1, x2, x3⟩ := hfit _ n1.1 n1.2
      obtain ⟨y1, y2, y3⟩ := hfit _ n2.1 n2.2
      clear ih hix hbd hfit e1 e2 e3 e4
      generalize D1 - G = v1 at *
      generalize D - G1 = v2 at *
      rw [loopL_step' ha]
      repeat' (first | (refine cond_by (F := ans) (fun _ => ?_) (fun _ => ?_)) | (refine wayK_by (F := ans) (fun _ hb_ => ?_) (fun _ hb_ => ?_) <;> simp only [hb_]) | (refine wayK_byN (F := ans) (fun _ hb_ => ?_) (fun _ hb_ => ?_) <;> simp only [hb_]) | (refine wayD_by (F := ans) (fun _ hb_ => ?_) (fun _ hb_ => ?_) <;> simp only [hb_]) | (refine wayD_byN (F := ans) (fun _ hb_ => ?_) (fun _ hb_ => ?_) <;> simp only [hb_]) | (refine rdK_by (F := ans) (fun _ => ?_) (fun _ => ?_)) | (refine effK_by (F := ans) (fun _ => ?_) (fun _ => ?_)) | (refine effK_by2 (F := ans) (fun _ => ?_) (fun _ => ?_)) | (refine rdD_by (F := ans) (fun _ => ?_) (fun _ => ?_)) | (refine effD_by (F := ans) (fun _ => ?_) (fun _ => ?_)) | (refine effD_by2 (F := ans) (fun _ => ?_) (fun _ => ?_)) | simp -implicitDefEqProofs (disch := first | omega | (simp only [List.length_append, List.length_cons, List.length_nil, List.length_drop, List.length_take]; omega)) only [evs, tys, lors, Nat.reduceAdd, Nat.reduceSub, Nat.reduceMul, Nat.reducePow, Nat.reduceBEq, Nat.reduceLT, Nat.reduceLeDiff, Nat.reduceEqDiff, Int.reduceLT, Int.reduceLE, Int.reduceEq, Int.reduceNe, Int.reduceToNat, Int.reduceAdd, Int.reduceSub, Int.reduceMul, Int.reducePow, Int.reduceDiv, Int.reduceMod, Int.reduceNeg, reduceCtorEq, codeKey, List.contains, List.elem, Ev.load, peek, pack, storeV, fieldAddr, field, cvB, hk, hlt, hgt, el, ell, hj0, decide_true, decide_false, t1, t2, t3, t4, g2, g4, u1, u2, u3, u4])
      all_goals first | exact ih1 | exact ih2 | (exfalso; omega)
theorem topHeld_ev (p d : Int) (l : List Int) (c : Bool) : ans (callL lore 4 [.int .i64 p, .int .i64 d, .sl (l.map (V.int .i64)) 1 c] []) = some (.bool true) := by
  rw [call_start lore_ext4 Tryd.func4 rfl lore_okf4 (Nat.le_of_ble_eq_true rfl)]
  have hn := new15_cv p []
  have ell : (l.map (V.int .i64)).length = l.length := List.length_map ..
  by_cases hp : p < 1 ∨ 65536 < p
  · rw [if_pos hp] at hn
    repeat' (first | (refine cond_by (F := ans) (fun _ => ?_) (fun _ => ?_)) | (refine wayK_by (F := ans) (fun _ hb_ => ?_) (fun _ hb_ => ?_) <;> simp only [hb_]) | (refine wayK_byN (F := ans) (fun _ hb_ => ?_) (fun _ hb_ => ?_) <;> simp only [hb_]) | (refine wayD_by (F := ans) (fun _ hb_ => ?_) (fun _ hb_ => ?_) <;> simp only [hb_]) | (refine wayD_byN (F := ans) (fun _ hb_ => ?_) (fun _ hb_ => ?_) <;> simp only [hb_]) | (refine rdK_by (F := ans) (fun _ => ?_) (fun _ => ?_)) | (refine effK_by (F := ans) (fun _ => ?_) (fun _ => ?_)) | (refine effK_by2 (F := ans) (fun _ => ?_) (fun _ => ?_)) | (refine rdD_by (F := ans) (fun _ => ?_) (fun _ => ?_)) | (refine effD_by (F := ans) (fun _ => ?_) (fun _ => ?_)) | (refine effD_by2 (F := ans) (fun _ => ?_) (fun _ => ?_)) | simp -implicitDefEqProofs (disch := first | omega | (simp only [List.length_append, List.length_cons, List.length_nil, List.length_drop, List.length_take]; omega)) only [evs, tys, lors, Nat.reduceAdd, Nat.reduceSub, Nat.reduceMul, Nat.reducePow, Nat.reduceBEq, Nat.reduceLT, Nat.reduceLeDiff, Nat.reduceEqDiff, Int.reduceLT, Int.reduceLE, Int.reduceEq, Int.reduceNe, Int.reduceToNat, Int.reduceAdd, Int.reduceSub, Int.reduceMul, Int.reducePow, Int.reduceDiv, Int.reduceMod, Int.reduceNeg, reduceCtorEq, codeKey, List.contains, List.elem, Ev.load, peek, pack, storeV, fieldAddr, field, cvB, begins_cv, hn, pts])
  · rw [if_neg hp] at hn
    simp only [List.length_nil, Nat.zero_add, List.nil_append] at hn
    by_cases hr : RightS 1 1048576 d
    · have hix : ∀ v H, 0 ≤ v → v ≤ p → callV (CL lore) 16 [.agg [.int .i64 1, .int .i64 1048576, .int .i64 d], .int .i64 v] H = some (.tup [.int .i64 (idxZ (subE d) (v / 2 ^ uOf 1)), .int .i64 0], H) := fun v H h0 h1 => by
        rw [indexP_cv, indexV, if_pos hr, if_pos ⟨h0, by omega⟩]
      have hm := fun v (h0 : 0 ≤ v) (h1 : v ≤ p) => idx_mono hr v p h0 h1 (by omega)
      have hm2 := fun v (h0 : 0 ≤ v) (h1 : v ≤ p) => idx_mono hr v 1048576 h0 (by omega) (by omega)
      have hin := fun v (h0 : 0 ≤ v) (h1 : v ≤ p) => v_in hr v h0 (by omega)
      have hxf := fun v (h0 : 0 ≤ v) (h1 : v ≤ p) => (x_facts hr (v := v) h0 (by omega)).2.2.2.2.1
      have hbd : ∀ v H, 0 ≤ v → v ≤ p → callV (CL lore) 20 [.agg [.int .i64 1, .int .i64 1048576, .int .i64 d], .int .i64 (idxZ (subE d) (v / 2 ^ uOf 1))] H = some (.tup [.int .i64 (lowZ 1 d (idxZ (subE d) (v / 2 ^ uOf 1))), .int .i64 (lowZ 1 d (idxZ (subE d) (v / 2 ^ uOf 1)) + widZ 1 d (idxZ (subE d) (v / 2 ^ uOf 1)) - 1), .int .i64 0], H) := fun v H h0 h1 => by
        rw [boundsP_cv, boundsV, if_pos hr, if_pos ⟨hxf v h0 h1, hm2 v h0 h1⟩]
      have hl := fun (K : Kont) => held_loop (K := K) (l := l) (c := c) (tp := idxZ (subE d) (p / 2 ^ uOf 1)) (R := some (.bool true)) (fun v => idxZ (subE d) (v / 2 ^ uOf 1)) (fun v => lowZ 1 d (idxZ (subE d) (v / 2 ^ uOf 1))) (fun v => lowZ 1 d (idxZ (subE d) (v / 2 ^ uOf 1)) + widZ 1 d (idxZ (subE d) (v / 2 ^ uOf 1)) - 1) ⟨by omega, by omega⟩ hix hbd
        (fun v h0 h1 => ⟨hm v h0 h1, (hin v h0 h1).1, by have := (hin v h0 h1).2; omega⟩)
      have h0 := fun (a : Code) (ha : loopIn Tryd.prog 4 11 = some a) (K : Kont) hK H hs h3 => hl K a ha hK l.length 0 H 0 0 rfl (Nat.zero_le _) (by decide) hs h3 ⟨by omega, by omega, by omega, by omega⟩
      have hx := fun H => hix p H (by omega) (Int.le_refl _)
      clear hl hix hbd hm hm2 hin hxf
      generalize idxZ (subE d) (p / 2 ^ uOf 1) = tp at *
      repeat' (first | (refine cond_by (F := ans) (fun _ => ?_) (fun _ => ?_)) | (refine wayK_by (F := ans) (fun _ hb_ => ?_) (fun _ hb_ => ?_) <;> simp only [hb_]) | (refine wayK_byN (F := ans) (fun _ hb_ => ?_) (fun _ hb_ => ?_) <;> simp only [hb_]) | (refine wayD_by (F := ans) (fun _ hb_ => ?_) (fun _ hb_ => ?_) <;> simp only [hb_]) | (refine wayD_byN (F := ans) (fun _ hb_ => ?_) (fun _ hb_ => ?_) <;> simp only [hb_]) | (refine rdK_by (F := ans) (fun _ => ?_) (fun _ => ?_)) | (refine effK_by (F := ans) (fun _ => ?_) (fun _ => ?_)) | (refine effK_by2 (F := ans) (fun _ => ?_) (fun _ => ?_)) | (refine rdD_by (F := ans) (fun _ => ?_) (fun _ => ?_)) | (refine effD_by (F := ans) (fun _ => ?_) (fun _ => ?_)) | (refine effD_by2 (F := ans) (fun _ => ?_) (fun _ => ?_)) | simp -implicitDefEqProofs (disch := first | omega | (simp only [List.length_append, List.length_cons, List.length_nil, List.length_drop, List.length_take]; omega)) only [evs, tys, lors, Nat.reduceAdd, Nat.reduceSub, Nat.reduceMul, Nat.reducePow, Nat.reduceBEq, Nat.reduceLT, Nat.reduceLeDiff, Nat.reduceEqDiff, Int.reduceLT, Int.reduceLE, Int.reduceEq, Int.reduceNe, Int.reduceToNat, Int.reduceAdd, Int.reduceSub, Int.reduceMul, Int.reducePow, Int.reduceDiv, Int.reduceMod, Int.reduceNeg, reduceCtorEq, codeKey, List.contains, List.elem, Ev.load, peek, pack, storeV, fieldAddr, field, cvB, begins_cv, hn, hx, ell, pts, set_new, get_new, set_new0, get_new0, List.length_cons, List.length_nil, List.cons_append, List.nil_append])
      refine h0 _ rfl _ (fun j H => ?_) _ ⟨rfl, rfl, rfl, by decide⟩ rfl
      repeat' (first | (refine cond_by (F := ans) (fun _ => ?_) (fun _ => ?_)) | (refine wayK_by (F := ans) (fun _ hb_ => ?_) (fun _ hb_ => ?_) <;> simp only [hb_]) | (refine wayK_byN (F := ans) (fun _ hb_ => ?_) (fun _ hb_ => ?_) <;> simp only [hb_]) | (refine wayD_by (F := ans) (fun _ hb_ => ?_) (fun _ hb_ => ?_) <;> simp only [hb_]) | (refine wayD_byN (F := ans) (fun _ hb_ => ?_) (fun _ hb_ => ?_) <;> simp only [hb_]) | (refine rdK_by (F := ans) (fun _ => ?_) (fun _ => ?_)) | (refine effK_by (F := ans) (fun _ => ?_) (fun _ => ?_)) | (refine effK_by2 (F := ans) (fun _ => ?_) (fun _ => ?_)) | (refine rdD_by (F := ans) (fun _ => ?_) (fun _ => ?_)) | (refine effD_by (F := ans) (fun _ => ?_) (fun _ => ?_)) | (refine effD_by2 (F := ans) (fun _ => ?_) (fun _ => ?_)) | simp -implicitDefEqProofs (disch := first | omega | (simp only [List.length_append, List.length_cons, List.length_nil, List.length_drop, List.length_take]; omega)) only [evs, tys, lors, Nat.reduceAdd, Nat.reduceSub, Nat.reduceMul, Nat.reducePow, Nat.reduceBEq, Nat.reduceLT, Nat.reduceLeDiff, Nat.reduceEqDiff, Int.reduceLT, Int.reduceLE, Int.reduceEq, Int.reduceNe, Int.reduceToNat, Int.reduceAdd, Int.reduceSub, Int.reduceMul, Int.reducePow, Int.reduceDiv, Int.reduceMod, Int.reduceNeg, reduceCtorEq, codeKey, List.contains, List.elem, Ev.load, peek, pack, storeV, fieldAddr, field, cvB, ell])
    · have hx := indexP_cv 1 1048576 d p
      unfold indexV at hx
      simp only [if_neg hr] at hx
      repeat' (first | (refine cond_by (F := ans) (fun _ => ?_) (fun _ => ?_)) | (refine wayK_by (F := ans) (fun _ hb_ => ?_) (fun _ hb_ => ?_) <;> simp only [hb_]) | (refine wayK_byN (F := ans) (fun _ hb_ => ?_) (fun _ hb_ => ?_) <;> simp only [hb_]) | (refine wayD_by (F := ans) (fun _ hb_ => ?_) (fun _ hb_ => ?_) <;> simp only [hb_]) | (refine wayD_byN (F := ans) (fun _ hb_ => ?_) (fun _ hb_ => ?_) <;> simp only [hb_]) | (refine rdK_by (F := ans) (fun _ => ?_) (fun _ => ?_)) | (refine effK_by (F := ans) (fun _ => ?_) (fun _ => ?_)) | (refine effK_by2 (F := ans) (fun _ => ?_) (fun _ => ?_)) | (refine rdD_by (F := ans) (fun _ => ?_) (fun _ => ?_)) | (refine effD_by (F := ans) (fun _ => ?_) (fun _ => ?_)) | (refine effD_by2 (F := ans) (fun _ => ?_) (fun _ => ?_)) | simp -implicitDefEqProofs (disch := first | omega | (simp only [List.length_append, List.length_cons, List.length_nil, List.length_drop, List.length_take]; omega)) only [evs, tys, lors, Nat.reduceAdd, Nat.reduceSub, Nat.reduceMul, Nat.reducePow, Nat.reduceBEq, Nat.reduceLT, Nat.reduceLeDiff, Nat.reduceEqDiff, Int.reduceLT, Int.reduceLE, Int.reduceEq, Int.reduceNe, Int.reduceToNat, Int.reduceAdd, Int.reduceSub, Int.reduceMul, Int.reducePow, Int.reduceDiv, Int.reduceMod, Int.reduceNeg, reduceCtorEq, codeKey, List.contains, List.elem, Ev.load, peek, pack, storeV, fieldAddr, field, cvB, begins_cv, hn, hx, pts])
end Go.Proofs.YthpfimildcbgmaaDoor
