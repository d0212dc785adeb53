/-
whole: Mul.
-/
import Derived.Test.YtacnpljkcpomnaaW2
import Derived.Test.YtacnpljkcpomnaaL4
namespace Go.Proofs.Ytacnpljkcpomnaa
open Go Ev
set_option linter.all false
set_option maxHeartbeats 4000000
set_option maxRecDepth 5000
attribute [local irreducible] codeL condL loopL callL callV evOps evDraw rdK effK wayK oneK wayD oneD rdD effD chks chkB res

theorem mk73 {h : Heap} {n : Int} (h0 : 0 ≤ n) (h1 : n ≤ 1000000) : mksO Try.prog h 73 (.int .i64 n) (.int .i64 n) = some (.row h.length n.toNat, h ++ [⟨List.replicate n.toNat (.int .u64 0), 1, true, false⟩]) := by
  have hz : sizeT Try.prog 46 = 1 := sz46
  have hb := by46
  simp only [mksO, Try.underlying73, zero46, Option.bind_some, hz]
  have hm : n * (bytesT Try.prog 46 : Int) ≤ maxLen47 := by
    have := Int.mul_le_mul (a := n) (b := bytesT Try.prog 46) (c := 1000000) (d := 1024) h1 (by omega) (by omega) (by omega)
    have : ((maxLen47 : Nat) : Int) = 140737488355328 := by decide
    omega
  rw [if_pos ⟨h0, Int.le_refl _, hm, by have : ((maxLen47 : Nat) : Int) = 140737488355328 := by decide
                                        omega, by decide, rfl, rfl, rfl⟩]
theorem p264 : (2 : Int) ^ 64 = 18446744073709551616 := by decide
theorem mul64_cv (x y : Int) (hx : 0 ≤ x ∧ x ≤ 18446744073709551615) (hy : 0 ≤ y ∧ y ≤ 18446744073709551615) (H : Heap) : callV (CL lore) 63 [.int .u64 x, .int .u64 y] H = some (.tup [.int .u64 (x * y / 18446744073709551616), .int .u64 (x * y % 18446744073709551616)], H) := by
  refine callV_ans (r := some _) ?_ lore_sh63 rfl H
  rw [callL_ext (k := mul64X) rfl]
  simp only [mul64X]
  rw [if_pos ⟨hx, hy⟩]
  rfl
theorem add64_cv (x y : Int) (hx : 0 ≤ x) (hy : 0 ≤ y) (H : Heap) : callV (CL lore) 64 [.int .u64 x, .int .u64 y, .int .u64 0] H = some (.tup [.int .u64 ((x + y) % 18446744073709551616), .int .u64 ((x + y) / 18446744073709551616)], H) := by
  obtain ⟨x, rfl⟩ : ∃ n : Nat, x = n := ⟨x.toNat, by omega⟩
  obtain ⟨y, rfl⟩ : ∃ n : Nat, y = n := ⟨y.toNat, by omega⟩
  refine callV_ans (r := some _) ?_ lore_sh64 rfl H
  rw [callL_ext (k := outer .add64) rfl]
  simp only [outer]
  rw [if_pos (by decide)]
  rfl
theorem onElem_int {k : IntKind} {n : Int} {v : V} : onElem (.int k n) 0 [v] = v := rfl
theorem mulIn (b0 b1 b2 : Box) (i : Nat) (hi : i ≤ 1000000) (x : Int) (hx : 0 ≤ x ∧ x ≤ 18446744073709551615) (sa na iv : V) (tot : Nat) (bs : List Int) (c2 : Bool) (hbs : Us 18446744073709551616 bs) (hbl : bs.length ≤ 1000000) (K : Kont) (R : Option V) (a : Code) (ha : loopIn Try.prog 49 7 = some a) (fin : List Int) (cf : Int)
    (hR : ans (K (.exit 2) (Sl 90 .wild [(2, .ptr 0 0), (3, .ptr 1 0), (4, .ptr 2 0), (5, .row 3 tot), (6, .int .i64 i), (7, .int .u64 x), (8, .int .u64 cf), (23, sa), (24, na), (25, iv), (31, .sl (enc bs) 1 c2), (32, .int .i64 bs.length), (33, .int .i64 bs.length)]) [b0, b1, b2, ⟨enc fin, 1, true, false⟩]) = R) :
    ∀ (ys bd pre os : List Int) (c j : Int), bs = bd ++ ys → j = bd.length → pre.length = i + bd.length → ys.length ≤ os.length → pre.length + os.length = tot → Us 18446744073709551616 os → (0 ≤ c ∧ c < 18446744073709551616) → pre ++ mrow 18446744073709551616 x ys os c = fin → mcar 18446744073709551616 x ys os c = cf →
    ans (loopL lore 49 a (Sl 90 .wild [(2, .ptr 0 0), (3, .ptr 1 0), (4, .ptr 2 0), (5, .row 3 tot), (6, .int .i64 i), (7, .int .u64 x), (8, .int .u64 c), (23, sa), (24, na), (25, iv), (31, .sl (enc bs) 1 c2), (32, .int .i64 bs.length), (33, .int .i64 j)]) [b0, b1, b2, ⟨enc (pre ++ os), 1, true, false⟩] K) = R := by
  have hk := loop_key ha
  simp only [loopIn, Try.func49, Try.f49, loopAt, Option.bind_some, codeKey, if_true, Option.some.injEq, Nat.reduceEqDiff, if_false] at ha
  intro ys
  induction ys with
  | nil =>
    intro bd pre os c j hb hj hp ho ht hu hc hfin hcf
    simp only [mrow, mcar] at hfin hcf
    subst hfin hcf hj
    rw [List.append_nil] at hb
    subst hb
    rw [loopL_step' ha]
    repeat' (first | (refine cond_by (F := ans) (fun _ => ?_) (fun _ => ?_)) | (refine wayK_by (F := ans) (fun _ hb_ => ?_) (fun _ hb_ => ?_) <;> simp only [hb_]) | (refine wayK_byN (F := ans) (fun _ hb_ => ?_) (fun _ hb_ => ?_) <;> simp only [hb_]) | (refine wayD_by (F := ans) (fun _ hb_ => ?_) (fun _ hb_ => ?_) <;> simp only [hb_]) | (refine wayD_byN (F := ans) (fun _ hb_ => ?_) (fun _ hb_ => ?_) <;> simp only [hb_]) | (refine rdK_by (F := ans) (fun _ => ?_) (fun _ => ?_)) | (refine effK_by (F := ans) (fun _ => ?_) (fun _ => ?_)) | (refine effK_by2 (F := ans) (fun _ => ?_) (fun _ => ?_)) | (refine rdD_by (F := ans) (fun _ => ?_) (fun _ => ?_)) | (refine effD_by (F := ans) (fun _ => ?_) (fun _ => ?_)) | (refine effD_by2 (F := ans) (fun _ => ?_) (fun _ => ?_)) | simp -implicitDefEqProofs (disch := first | omega | (simp only [List.length_append, List.length_cons, List.length_nil, List.length_drop, List.length_take]; omega)) only [evs, tys, lors, Nat.reduceAdd, Nat.reduceSub, Nat.reduceMul, Nat.reducePow, Nat.reduceBEq, Nat.reduceLT, Nat.reduceLeDiff, Nat.reduceEqDiff, Int.reduceLT, Int.reduceLE, Int.reduceEq, Int.reduceNe, Int.reduceToNat, Int.reduceAdd, Int.reduceSub, Int.reduceMul, Int.reducePow, Int.reduceDiv, Int.reduceMod, Int.reduceNeg, reduceCtorEq, codeKey, List.contains, List.elem, Ev.load, peek, pack, storeV, fieldAddr, field, cvB, hk])
    · exfalso; omega
    · exact hR
  | cons y ys ih =>
    intro bd pre os c j hb hj hp ho ht hu hc hfin hcf
    cases os with
    | nil => simp at ho
    | cons o os =>
      obtain ⟨hy, hu2⟩ := us_cons.1 (us_append.1 (hb ▸ hbs)).2
      obtain ⟨ho1, ho2⟩ := us_cons.1 hu
      obtain ⟨s1, s2, s3, s4, s5, s6, s7⟩ := step_bounds (by decide) ⟨hx.1, by omega⟩ hy hc ho1
      simp only [mrow, mcar] at hfin hcf
      have e1 : (enc bs)[j.toNat]? = some (.int .u64 y) := by
        rw [hb, hj, Int.toNat_natCast]; exact enc_get bd y ys
      have e2 : (enc (pre ++ o :: os))[((i : Int) + j).toNat]? = some (.int .u64 o) := by
        rw [show ((i : Int) + j).toNat = pre.length by omega]; exact enc_get pre o os
      have e3 : ∀ z, (enc (pre ++ o :: os)).set ((i : Int) + j).toNat (.int .u64 z) = enc (pre ++ z :: os) := fun z => by
        rw [show ((i : Int) + j).toNat = pre.length by omega]; exact enc_set pre o z os
      have e4 := enc_len bs
      have e5 : (enc (pre ++ o :: os)).length = tot := by rw [enc_len, List.length_append, List.length_cons]; simpa using ht
      have hl : j < bs.length ∧ bs.length = bd.length + ys.length + 1 := by rw [hb]; simp; omega
      simp only [List.length_cons] at ho ht
      have m1 := mul64_cv x y hx ⟨hy.1, by omega⟩
      generalize x * y = p at *
      have e6 : ((p % 18446744073709551616 + c) % 18446744073709551616 + o) % 18446744073709551616 = (p + c + o) % 18446744073709551616 := by omega
      have e7 : p / 18446744073709551616 + (p % 18446744073709551616 + c) / 18446744073709551616 + ((p % 18446744073709551616 + c) % 18446744073709551616 + o) / 18446744073709551616 = (p + c + o) / 18446744073709551616 := by omega
      rw [loopL_step' ha]
      repeat' (first | (refine cond_by (F := ans) (fun _ => ?_) (fun _ => ?_)) | (refine wayK_by (F := ans) (fun _ hb_ => ?_) (fun _ hb_ => ?_) <;> simp only [hb_]) | (refine wayK_byN (F := ans) (fun _ hb_ => ?_) (fun _ hb_ => ?_) <;> simp only [hb_]) | (refine wayD_by (F := ans) (fun _ hb_ => ?_) (fun _ hb_ => ?_) <;> simp only [hb_]) | (refine wayD_byN (F := ans) (fun _ hb_ => ?_) (fun _ hb_ => ?_) <;> simp only [hb_]) | (refine rdK_by (F := ans) (fun _ => ?_) (fun _ => ?_)) | (refine effK_by (F := ans) (fun _ => ?_) (fun _ => ?_)) | (refine effK_by2 (F := ans) (fun _ => ?_) (fun _ => ?_)) | (refine rdD_by (F := ans) (fun _ => ?_) (fun _ => ?_)) | (refine effD_by (F := ans) (fun _ => ?_) (fun _ => ?_)) | (refine effD_by2 (F := ans) (fun _ => ?_) (fun _ => ?_)) | simp -implicitDefEqProofs (disch := first | omega | (simp only [List.length_append, List.length_cons, List.length_nil, List.length_drop, List.length_take]; omega)) only [evs, tys, lors, Nat.reduceAdd, Nat.reduceSub, Nat.reduceMul, Nat.reducePow, Nat.reduceBEq, Nat.reduceLT, Nat.reduceLeDiff, Nat.reduceEqDiff, Int.reduceLT, Int.reduceLE, Int.reduceEq, Int.reduceNe, Int.reduceToNat, Int.reduceAdd, Int.reduceSub, Int.reduceMul, Int.reducePow, Int.reduceDiv, Int.reduceMod, Int.reduceNeg, reduceCtorEq, codeKey, List.contains, List.elem, Ev.load, peek, pack, storeV, fieldAddr, field, cvB, hk, e1, e2, e3, e4, e5, e6, e7, m1, add64_cv, implies_true, onElem_int])
      · have := ih (bd ++ [y]) (pre ++ [(p + c + o) % 18446744073709551616]) os ((p + c + o) / 18446744073709551616) (j + 1) (by rw [hb, List.append_assoc]; rfl) (by simp; omega) (by simp; omega) (by omega) (by simp; omega) ho2 ⟨s4, s5⟩ (by rw [← hfin, List.append_assoc]; rfl) hcf
        rw [List.append_assoc] at this
        exact this
      · exfalso; omega
theorem callV_thaw {c : Calls_} {g : Nat} {vs ws : List V} {h h' : Heap} {v : V} (hs : c.shared g = false) (hf : fz2s h vs = some (ws, h')) (hp : fz2s [] ws = some (ws, [])) (hr : ∀ H, callV c g ws H = some (v, H)) : callV c g vs h = some (v, h') := by
  have h1 := hr []
  unfold callV at h1 ⊢
  rw [hs] at h1 ⊢
  simp only [hp, hf, Option.bind_some] at h1 ⊢
  generalize (c.run g ws []) = r at *
  cases r with
  | none => simp at h1
  | some r =>
    simp only [Option.bind_some] at h1 ⊢
    generalize give r.2 r.1 = q at *
    cases q with
    | none => simp at h1
    | some q =>
      simp only [Option.map_some, Option.some.injEq, Prod.mk.injEq, and_true] at h1 ⊢
      exact h1
theorem mulOut (b0 b2 : Box) (neg : Bool) (al bs : List Int) (c1 c2 : Bool) (has : Us 18446744073709551616 al) (hbs : Us 18446744073709551616 bs) (hal : al.length ≤ 500000) (hbl : bs.length ≤ 500000) (K : Kont) (R : Option V) (a : Code) (ha : loopIn Try.prog 49 3 = some a)
    (hR : ∀ fin : List Int, fin.length = al.length + bs.length → Us 18446744073709551616 fin → wv 18446744073709551616 fin = wv 18446744073709551616 al * wv 18446744073709551616 bs → ans (K (.exit 0) (Sl 90 .wild [(2, .ptr 0 0), (3, .ptr 1 0), (4, .ptr 2 0), (5, .row 3 (al.length + bs.length)), (23, .sl (enc al) 1 c1), (24, .int .i64 al.length), (25, .int .i64 al.length)]) [b0, ⟨[.bool neg, .sl (enc bs) 1 c2], 0, false, false⟩, b2, ⟨enc fin, 1, true, false⟩]) = R) :
    ∀ (xs ad o : List Int) (j : Int), al = ad ++ xs → j = ad.length → o.length = ad.length + bs.length → Us 18446744073709551616 o → wv 18446744073709551616 o = wv 18446744073709551616 ad * wv 18446744073709551616 bs →
    ans (loopL lore 49 a (Sl 90 .wild [(2, .ptr 0 0), (3, .ptr 1 0), (4, .ptr 2 0), (5, .row 3 (al.length + bs.length)), (23, .sl (enc al) 1 c1), (24, .int .i64 al.length), (25, .int .i64 j)]) [b0, ⟨[.bool neg, .sl (enc bs) 1 c2], 0, false, false⟩, b2, ⟨enc (o ++ List.replicate xs.length 0), 1, true, false⟩] K) = R := by
  have hk := loop_key ha
  simp only [loopIn, Try.func49, Try.f49, loopAt, Option.bind_some, codeKey, if_true, Option.some.injEq, Nat.reduceEqDiff, if_false] at ha
  have hB : (0 : Int) < 18446744073709551616 := by decide
  intro xs
  induction xs with
  | nil =>
    intro ad o j hb hj ho hu hv
    rw [List.append_nil] at hb
    subst hb hj
    rw [List.length_nil, List.replicate_zero, List.append_nil]
    rw [loopL_step' ha]
    repeat' (first | (refine cond_by (F := ans) (fun _ => ?_) (fun _ => ?_)) | (refine wayK_by (F := ans) (fun _ hb_ => ?_) (fun _ hb_ => ?_) <;> simp only [hb_]) | (refine wayK_byN (F := ans) (fun _ hb_ => ?_) (fun _ hb_ => ?_) <;> simp only [hb_]) | (refine wayD_by (F := ans) (fun _ hb_ => ?_) (fun _ hb_ => ?_) <;> simp only [hb_]) | (refine wayD_byN (F := ans) (fun _ hb_ => ?_) (fun _ hb_ => ?_) <;> simp only [hb_]) | (refine rdK_by (F := ans) (fun _ => ?_) (fun _ => ?_)) | (refine effK_by (F := ans) (fun _ => ?_) (fun _ => ?_)) | (refine effK_by2 (F := ans) (fun _ => ?_) (fun _ => ?_)) | (refine rdD_by (F := ans) (fun _ => ?_) (fun _ => ?_)) | (refine effD_by (F := ans) (fun _ => ?_) (fun _ => ?_)) | (refine effD_by2 (F := ans) (fun _ => ?_) (fun _ => ?_)) | simp -implicitDefEqProofs (disch := first | omega | (simp only [List.length_append, List.length_cons, List.length_nil, List.length_drop, List.length_take]; omega)) only [evs, tys, lors, Nat.reduceAdd, Nat.reduceSub, Nat.reduceMul, Nat.reducePow, Nat.reduceBEq, Nat.reduceLT, Nat.reduceLeDiff, Nat.reduceEqDiff, Int.reduceLT, Int.reduceLE, Int.reduceEq, Int.reduceNe, Int.reduceToNat, Int.reduceAdd, Int.reduceSub, Int.reduceMul, Int.reducePow, Int.reduceDiv, Int.reduceMod, Int.reduceNeg, reduceCtorEq, codeKey, List.contains, List.elem, Ev.load, peek, pack, storeV, fieldAddr, field, cvB, hk])
    · exfalso; omega
    · exact hR o ho hu hv
  | cons x xs ih =>
    intro ad o j hb hj ho hu hv
    obtain ⟨hx, hu2⟩ := us_cons.1 (us_append.1 (hb ▸ has)).2
    have e1 : (enc al)[j.toNat]? = some (.int .u64 x) := by
      rw [hb, hj, Int.toNat_natCast]; exact enc_get ad x xs
    have e4 := enc_len al
    have e4' := enc_len bs
    have hl : j < al.length ∧ al.length = ad.length + xs.length + 1 := by rw [hb]; simp; omega
    obtain ⟨o1, o2, rfl, h1, h2⟩ : ∃ o1 o2, o = o1 ++ o2 ∧ o1.length = ad.length ∧ o2.length = bs.length := ⟨o.take ad.length, o.drop ad.length, (List.take_append_drop ..).symm, by rw [List.length_take]; omega, by rw [List.length_drop]; omega⟩
    obtain ⟨u1, u2⟩ := us_append.1 hu
    have mu := mrow_us hB x hx bs o2 0 hbs u2 (by decide)
    have ml := mrow_len 18446744073709551616 x bs o2 0
    have mv := mrow_val hB x bs o2 0 (by omega)
    have hj2 : j = ((ad.length : Nat) : Int) := hj
    subst hj2
    rw [Int.toNat_natCast] at e1
    rw [loopL_step' ha]
    repeat' (first | (refine cond_by (F := ans) (fun _ => ?_) (fun _ => ?_)) | (refine wayK_by (F := ans) (fun _ hb_ => ?_) (fun _ hb_ => ?_) <;> simp only [hb_]) | (refine wayK_byN (F := ans) (fun _ hb_ => ?_) (fun _ hb_ => ?_) <;> simp only [hb_]) | (refine wayD_by (F := ans) (fun _ hb_ => ?_) (fun _ hb_ => ?_) <;> simp only [hb_]) | (refine wayD_byN (F := ans) (fun _ hb_ => ?_) (fun _ hb_ => ?_) <;> simp only [hb_]) | (refine rdK_by (F := ans) (fun _ => ?_) (fun _ => ?_)) | (refine effK_by (F := ans) (fun _ => ?_) (fun _ => ?_)) | (refine effK_by2 (F := ans) (fun _ => ?_) (fun _ => ?_)) | (refine rdD_by (F := ans) (fun _ => ?_) (fun _ => ?_)) | (refine effD_by (F := ans) (fun _ => ?_) (fun _ => ?_)) | (refine effD_by2 (F := ans) (fun _ => ?_) (fun _ => ?_)) | simp -implicitDefEqProofs (disch := first | omega | (simp only [List.length_append, List.length_cons, List.length_nil, List.length_drop, List.length_take]; omega)) only [evs, tys, lors, Nat.reduceAdd, Nat.reduceSub, Nat.reduceMul, Nat.reducePow, Nat.reduceBEq, Nat.reduceLT, Nat.reduceLeDiff, Nat.reduceEqDiff, Int.reduceLT, Int.reduceLE, Int.reduceEq, Int.reduceNe, Int.reduceToNat, Int.reduceAdd, Int.reduceSub, Int.reduceMul, Int.reducePow, Int.reduceDiv, Int.reduceMod, Int.reduceNeg, reduceCtorEq, codeKey, List.contains, List.elem, Ev.load, peek, pack, storeV, fieldAddr, field, cvB, hk, e1, e4, e4'])
    · have ap := mrow_app 18446744073709551616 x bs o2 (0 :: List.replicate xs.length 0) 0 h2.symm
      rw [List.replicate_succ, List.append_assoc]
      refine mulIn _ _ _ ad.length (by omega) x ⟨hx.1, by omega⟩ _ _ _ (al.length + bs.length) bs c2 hbs (by omega) _ _ _ (by rfl) (o1 ++ (mrow 18446744073709551616 x bs o2 0 ++ 0 :: List.replicate xs.length 0)) (mcar 18446744073709551616 x bs o2 0) ?_ bs [] o1 (o2 ++ 0 :: List.replicate xs.length 0) 0 0 rfl rfl (by simpa using h1) (by simp; omega) (by simp; omega) (us_append.2 ⟨u2, us_cons.2 ⟨by decide, us_zeros hB _⟩⟩) (by decide) (by rw [ap.1]) ap.2
      generalize mrow 18446744073709551616 x bs o2 0 = m at *
      generalize mcar 18446744073709551616 x bs o2 0 = cr at *
      have e6 : (enc (o1 ++ (m ++ 0 :: List.replicate xs.length 0))).length = al.length + bs.length := by rw [enc_len]; simp; omega
      have e7 : ∀ z, (enc (o1 ++ (m ++ 0 :: List.replicate xs.length 0))).set ((ad.length : Int) + (bs.length : Int)).toNat (.int .u64 z) = enc (o1 ++ (m ++ z :: List.replicate xs.length 0)) := fun z => by
        rw [show ((ad.length : Int) + (bs.length : Int)).toNat = (o1 ++ m).length by simp; omega, ← List.append_assoc, enc_set, List.append_assoc]
      have e8 : (enc (o1 ++ (m ++ 0 :: List.replicate xs.length 0)))[((ad.length : Int) + (bs.length : Int)).toNat]? = some (.int .u64 0) := by
        rw [show ((ad.length : Int) + (bs.length : Int)).toNat = (o1 ++ m).length by simp; omega, ← List.append_assoc, enc_get]
      repeat' (first | (refine cond_by (F := ans) (fun _ => ?_) (fun _ => ?_)) | (refine wayK_by (F := ans) (fun _ hb_ => ?_) (fun _ hb_ => ?_) <;> simp only [hb_]) | (refine wayK_byN (F := ans) (fun _ hb_ => ?_) (fun _ hb_ => ?_) <;> simp only [hb_]) | (refine wayD_by (F := ans) (fun _ hb_ => ?_) (fun _ hb_ => ?_) <;> simp only [hb_]) | (refine wayD_byN (F := ans) (fun _ hb_ => ?_) (fun _ hb_ => ?_) <;> simp only [hb_]) | (refine rdK_by (F := ans) (fun _ => ?_) (fun _ => ?_)) | (refine effK_by (F := ans) (fun _ => ?_) (fun _ => ?_)) | (refine effK_by2 (F := ans) (fun _ => ?_) (fun _ => ?_)) | (refine rdD_by (F := ans) (fun _ => ?_) (fun _ => ?_)) | (refine effD_by (F := ans) (fun _ => ?_) (fun _ => ?_)) | (refine effD_by2 (F := ans) (fun _ => ?_) (fun _ => ?_)) | simp -implicitDefEqProofs (disch := first | omega | (simp only [List.length_append, List.length_cons, List.length_nil, List.length_drop, List.length_take]; omega)) only [evs, tys, lors, Nat.reduceAdd, Nat.reduceSub, Nat.reduceMul, Nat.reducePow, Nat.reduceBEq, Nat.reduceLT, Nat.reduceLeDiff, Nat.reduceEqDiff, Int.reduceLT, Int.reduceLE, Int.reduceEq, Int.reduceNe, Int.reduceToNat, Int.reduceAdd, Int.reduceSub, Int.reduceMul, Int.reducePow, Int.reduceDiv, Int.reduceMod, Int.reduceNeg, reduceCtorEq, codeKey, List.contains, List.elem, Ev.load, peek, pack, storeV, fieldAddr, field, cvB, hk, e4, e4', e6, e7, e8, implies_true, onElem_int])
      have := ih (ad ++ [x]) (o1 ++ (m ++ [cr])) (ad.length + 1) (by rw [hb, List.append_assoc]; rfl) (by simp) (by simp; omega) (us_append.2 ⟨u1, us_append.2 ⟨mu.1, us_cons.2 ⟨mu.2, fun x hx => by simp at hx⟩⟩⟩) (by
        rw [wv_append] at hv ⊢
        rw [wv_append, wv_append, ml, h2, h1]
        simp only [wv, Int.mul_zero, Int.add_zero]
        rw [h1] at hv
        generalize wv 18446744073709551616 m = Wm at *
        generalize wv 18446744073709551616 o1 = W1 at *
        generalize wv 18446744073709551616 o2 = W2 at *
        generalize wv 18446744073709551616 ad = Wa at *
        generalize wv 18446744073709551616 bs = Wb at *
        generalize (18446744073709551616 : Int) ^ ad.length = P at *
        generalize (18446744073709551616 : Int) ^ bs.length = Q at *
        grind)
      rw [List.append_assoc, List.append_assoc] at this
      exact this
    · exfalso; omega
theorem mul_cv (a b : Int) (h0 : 0 ≤ a) (h1 : 0 ≤ b) (c1 c2 : Bool) (hal : (words a).length ≤ 500000) (hbl : (words b).length ≤ 500000) (H : Heap) : callV (CL lore) 49 [.agg [.bool false, .sl (enc (words a)) 1 c1], .agg [.bool false, .sl (enc (words b)) 1 c2]] H = some (.agg [.bool false, .sl (enc (words (a * b))) 1 false], H) := by
  refine callV_ans (r := some _) ?_ lore_sh49 rfl H
  rw [call_start lore_ext49 Try.func49 rfl lore_okf49 (Nat.le_of_ble_eq_true rfl)]
  have e1 := enc_len (words a)
  have e2 := enc_len (words b)
  have wa := words_wv h0
  have wb := words_wv h1
  have ua := words_us a
  have ub := words_us b
  rw [p264] at wa wb ua ub
  generalize words a = la at *
  generalize words b = lb at *
  repeat' (first | (refine cond_by (F := ans) (fun _ => ?_) (fun _ => ?_)) | (refine wayK_by (F := ans) (fun _ hb_ => ?_) (fun _ hb_ => ?_) <;> simp only [hb_]) | (refine wayK_byN (F := ans) (fun _ hb_ => ?_) (fun _ hb_ => ?_) <;> simp only [hb_]) | (refine wayD_by (F := ans) (fun _ hb_ => ?_) (fun _ hb_ => ?_) <;> simp only [hb_]) | (refine wayD_byN (F := ans) (fun _ hb_ => ?_) (fun _ hb_ => ?_) <;> simp only [hb_]) | (refine rdK_by (F := ans) (fun _ => ?_) (fun _ => ?_)) | (refine effK_by (F := ans) (fun _ => ?_) (fun _ => ?_)) | (refine effK_by2 (F := ans) (fun _ => ?_) (fun _ => ?_)) | (refine rdD_by (F := ans) (fun _ => ?_) (fun _ => ?_)) | (refine effD_by (F := ans) (fun _ => ?_) (fun _ => ?_)) | (refine effD_by2 (F := ans) (fun _ => ?_) (fun _ => ?_)) | simp -implicitDefEqProofs (disch := first | omega | (simp only [List.length_append, List.length_cons, List.length_nil, List.length_drop, List.length_take]; omega)) only [evs, tys, lors, Nat.reduceAdd, Nat.reduceSub, Nat.reduceMul, Nat.reducePow, Nat.reduceBEq, Nat.reduceLT, Nat.reduceLeDiff, Nat.reduceEqDiff, Int.reduceLT, Int.reduceLE, Int.reduceEq, Int.reduceNe, Int.reduceToNat, Int.reduceAdd, Int.reduceSub, Int.reduceMul, Int.reducePow, Int.reduceDiv, Int.reduceMod, Int.reduceNeg, reduceCtorEq, codeKey, List.contains, List.elem, Ev.load, peek, pack, storeV, fieldAddr, field, cvB, mk73, e1, e2])
  have el : ((la.length : Int) + (lb.length : Int)).toNat = la.length + lb.length := by omega
  have ez : List.replicate (la.length + lb.length) (V.int .u64 0) = enc (List.replicate lb.length 0 ++ List.replicate la.length 0) := by
    rw [List.replicate_append_replicate, enc, List.map_replicate, Nat.add_comm]
  rw [el, ez]
  refine mulOut _ _ false la lb c1 c2 ua ub hal hbl _ _ _ (by rfl) ?_ la [] (List.replicate lb.length 0) 0 rfl rfl (by simp) (us_zeros (by decide) _) (by rw [wv_zeros]; simp [wv])
  intro fin f1 f2 f3
  have e6 : (enc fin).length = la.length + lb.length := by rw [enc_len, f1]
  have hm := made_cv false fin false (by omega)
  rw [trim_eq (by rw [p264]; exact f2), p264, f3, wa, wb] at hm
  have hm2 : ∀ H, callV (CL lore) 62 [.bool false, .sl (enc fin) 1 false] H = some (.agg [.bool false, .sl (enc (words (a * b))) 1 false], H) := fun H => by
    rw [hm H]
    congr 6
    split <;> rfl
  have hm3 : callV (CL lore) 62 [V.bool false, V.row 3 (la.length + lb.length)] [⟨[.bool false, .sl (enc la) 1 c1], 0, false, false⟩, ⟨[.bool false, .sl (enc lb) 1 c2], 0, false, false⟩, ⟨[.bool false, .nils], 0, false, false⟩, ⟨enc fin, 1, true, false⟩] = some (.agg [.bool false, .sl (enc (words (a * b))) 1 false], [⟨[.bool false, .sl (enc la) 1 c1], 0, false, false⟩, ⟨[.bool false, .sl (enc lb) 1 c2], 0, false, false⟩, ⟨[.bool false, .nils], 0, false, false⟩, ⟨enc fin, 1, true, true⟩]) := by
    refine callV_thaw (ws := [.bool false, .sl (enc fin) 1 false]) rfl ?_ rfl hm2
    simp [fz2s, fz2, fz1, V.plain, e6]
  repeat' (first | (refine cond_by (F := ans) (fun _ => ?_) (fun _ => ?_)) | (refine wayK_by (F := ans) (fun _ hb_ => ?_) (fun _ hb_ => ?_) <;> simp only [hb_]) | (refine wayK_byN (F := ans) (fun _ hb_ => ?_) (fun _ hb_ => ?_) <;> simp only [hb_]) | (refine wayD_by (F := ans) (fun _ hb_ => ?_) (fun _ hb_ => ?_) <;> simp only [hb_]) | (refine wayD_byN (F := ans) (fun _ hb_ => ?_) (fun _ hb_ => ?_) <;> simp only [hb_]) | (refine rdK_by (F := ans) (fun _ => ?_) (fun _ => ?_)) | (refine effK_by (F := ans) (fun _ => ?_) (fun _ => ?_)) | (refine effK_by2 (F := ans) (fun _ => ?_) (fun _ => ?_)) | (refine rdD_by (F := ans) (fun _ => ?_) (fun _ => ?_)) | (refine effD_by (F := ans) (fun _ => ?_) (fun _ => ?_)) | (refine effD_by2 (F := ans) (fun _ => ?_) (fun _ => ?_)) | simp -implicitDefEqProofs (disch := first | omega | (simp only [List.length_append, List.length_cons, List.length_nil, List.length_drop, List.length_take]; omega)) only [evs, tys, lors, Nat.reduceAdd, Nat.reduceSub, Nat.reduceMul, Nat.reducePow, Nat.reduceBEq, Nat.reduceLT, Nat.reduceLeDiff, Nat.reduceEqDiff, Int.reduceLT, Int.reduceLE, Int.reduceEq, Int.reduceNe, Int.reduceToNat, Int.reduceAdd, Int.reduceSub, Int.reduceMul, Int.reducePow, Int.reduceDiv, Int.reduceMod, Int.reduceNeg, reduceCtorEq, codeKey, List.contains, List.elem, Ev.load, peek, pack, storeV, fieldAddr, field, cvB, e6, hm3, eqB_neq])
  all_goals trace_state
end Go.Proofs.Ytacnpljkcpomnaa
