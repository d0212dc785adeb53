/-
Chunks there and back: plain facts. Bytes, Points, lives.
-/
import Derived.Test.YtmjdcoacmmmhnaaDoorD2
namespace Go.Proofs.YtmjdcoacmmmhnaaDoor
open Go Ev
set_option linter.all false
set_option maxHeartbeats 4000000
set_option maxRecDepth 5000
attribute [local irreducible] codeL condL loopL callL callV evOps evDraw rdK effK wayK oneK wayD oneD rdD effD chks chkB res


def norm (l : List (Int × Nat)) : List (Int × Nat) := l.map fun p => (p.1, vbN p.2)
theorem norm_norm (l : List (Int × Nat)) : norm (norm l) = norm l := by
  unfold norm
  rw [List.map_map]
  apply List.map_congr_left
  intro p _
  simp only [Function.comp, vbN_vbN]
theorem norm_len (l : List (Int × Nat)) : (norm l).length = l.length := List.length_map ..
theorem encL_norm : ∀ (l : List (Int × Nat)) (s : ES), encL vbN s (norm l) = encL vbN s l
  | [], s => rfl
  | p :: r, s => by
    show (encPt s p.1 (vbN (vbN p.2))).1 ++ encL vbN (encPt s p.1 (vbN (vbN p.2))).2 (norm r) = _
    rw [vbN_vbN, encL_norm r]; rfl
theorem bytesL_norm (l : List (Int × Nat)) : bytesL (norm l) = bytesL l := by
  unfold bytesL
  rw [encL_norm, norm_len]
theorem flt_norm : ∀ (l : List (Int × Nat)) (a : Int) (k : Nat), flt a k (norm l) = flt a k l
  | [], a, k => rfl
  | p :: r, a, k => by
    show (if p.1 ≤ a then some k else flt p.1 (k + 1) (norm r)) = _
    rw [flt_norm r]; rfl
theorem fltL_norm (l : List (Int × Nat)) : fltL (norm l) = fltL l := by
  cases l with
  | nil => rfl
  | cons p r => exact flt_norm r p.1 1
theorem decD_bytes (l : List (Int × Nat)) (hd : DotsOk l) (hl : l.length ≤ 65535) (hf : fltL l = none) : decV (bytesL l) = .tup [if l = [] then .nils else .sl (encD (norm l)) 2 false, .int .i64 0] := by
  have h01 := encL_01 vbN l E0
  obtain ⟨z, hz⟩ := unpack_packB _ (encL vbN E0 l) rfl h01
  have hn : (((l.length / 256 : Nat) : Int) * 256 + ((l.length % 256 : Nat) : Int)).toNat = l.length := by omega
  have hD := list_inv vbN (L := unpack (packB (encL vbN E0 l))) (rest := List.replicate z 0) l E0 D0 (fun p hp => ⟨(hd p hp).1, vbN_lt (hd p hp).2⟩) ⟨rfl, rfl, fun h => by simp [E0] at h, fun h => by simp [E0] at h, rfl, rfl, E0_ok.2, fun _ => rfl⟩ E0_ok.1 (by rw [hz]; rfl) (Nat.zero_le _)
  have hnl : List.map (fun p => (p.1, vbN p.2)) l = norm l := rfl
  rw [hnl] at hD
  have hb : bytesL l = ((l.length / 256 : Nat) : Int) :: ((l.length % 256 : Nat) : Int) :: packB (encL vbN E0 l) := rfl
  have hee : (norm l = []) ↔ (l = []) := by
    rw [← List.length_eq_zero_iff, norm_len, List.length_eq_zero_iff]
  conv => lhs; rw [hb]
  simp only [decV, decD, hn, hD.1, hD.2]
  rw [fltL_norm, hf, bytesL_norm, if_pos ⟨trivial, rfl, hb⟩]
  by_cases h : l = []
  · rw [if_pos (hee.2 h), if_pos h]
  · rw [if_neg (fun e => h (hee.1 e)), if_neg h]
theorem encPt_le2 (s : ES) (a : Int) (v : Nat) : (encPt s a v).1.length ≤ 148 + (if s.i < 2 then 12 else 0) := by
  obtain ⟨i, at_, st, val, f⟩ := s
  match i with
  | 0 =>
    have := varF_le 10 (zig a)
    simp only [encPt, List.length_append, numB_len]
    simp; omega
  | 1 =>
    have h1 := varF_le 10 ((a - at_) % 18446744073709551616)
    have h2 := xorB_le (v ^^^ val) f
    simp only [encPt, List.length_append]
    simp; omega
  | i + 2 =>
    have h1 := difB_le (wrapS ((a - at_) % 18446744073709551616 - st))
    have h2 := xorB_le (v ^^^ val) f
    simp only [encPt, List.length_append]
    omega
theorem encPt_i (s : ES) (a : Int) (v : Nat) : (encPt s a v).2.i = s.i + 1 := by
  obtain ⟨i, at_, st, val, f⟩ := s
  match i with
  | 0 => rfl
  | 1 => rfl
  | i + 2 => rfl
theorem encL_le2 : ∀ (l : List (Int × Nat)) (s : ES), (encL vbN s l).length ≤ 148 * l.length + (if s.i = 0 then 24 else if s.i = 1 then 12 else 0)
  | [], s => by simp [encL]
  | p :: r, s => by
    have h1 := encL_le2 r (encPt s p.1 (vbN p.2)).2
    have h2 := encPt_le2 s p.1 (vbN p.2)
    rw [encPt_i] at h1
    rw [encL, List.length_append, List.length_cons]
    split at h2 <;> split <;> (try split) <;> (try split at h1) <;> (try split at h1) <;> omega
theorem bytesL_le (l : List (Int × Nat)) : (bytesL l).length ≤ 22 + 19 * l.length := by
  have h := encL_le2 l E0
  have h2 := packB_len _ (encL vbN E0 l) rfl
  have e0 : E0.i = 0 := rfl
  rw [e0, if_pos rfl] at h
  unfold bytesL
  rw [List.length_cons, List.length_cons, h2]
  omega
theorem flt_some : ∀ (r : List (Int × Nat)) (a : Int) (k j : Nat), flt a k r = some j → ∃ (i : Nat) (p : Int × Nat), j = k + i ∧ r[i]? = some p ∧ (i = 0 → p.1 ≤ a) ∧ (∀ m, i = m + 1 → ∃ q, r[m]? = some q ∧ p.1 ≤ q.1)
  | [], a, k, j, h => by simp [flt] at h
  | p :: r, a, k, j, h => by
    rw [flt] at h
    split at h
    · rename_i hle
      cases h
      exact ⟨0, p, rfl, rfl, fun _ => hle, fun m hm => by omega⟩
    · obtain ⟨i, q, h1, h2, h3, h4⟩ := flt_some r _ _ _ h
      refine ⟨i + 1, q, by omega, by simpa using h2, fun h => by omega, fun m hm => ?_⟩
      obtain rfl : m = i := by omega
      cases m with
      | zero => exact ⟨p, rfl, h3 rfl⟩
      | succ m =>
        obtain ⟨u, u1, u2⟩ := h4 m rfl
        exact ⟨u, by simpa using u1, u2⟩
theorem fltL_some {l : List (Int × Nat)} {j : Nat} (h : fltL l = some j) : ∃ p q, 1 ≤ j ∧ l[j]? = some p ∧ l[j - 1]? = some q ∧ p.1 ≤ q.1 := by
  cases l with
  | nil => simp [fltL] at h
  | cons x r =>
    obtain ⟨i, p, h1, h2, h3, h4⟩ := flt_some r x.1 1 j h
    cases i with
    | zero => exact ⟨p, x, by omega, by rw [h1]; simpa using h2, by rw [h1]; rfl, h3 rfl⟩
    | succ m =>
      obtain ⟨u, u1, u2⟩ := h4 m rfl
      refine ⟨p, u, by omega, ?_, ?_, u2⟩
      · rw [h1, show 1 + (m + 1) = (m + 1) + 1 by omega]; simpa using h2
      · rw [h1, show 1 + (m + 1) - 1 = m + 1 by omega]; simpa using u1
theorem encD_at {l : List (Int × Nat)} {j : Nat} {p : Int × Nat} (h : l[j]? = some p) : (encD l)[j]? = some (.agg [.int .i64 p.1, .fl .f64 p.2]) := by
  unfold encD
  rw [List.getElem?_map, h]; rfl


theorem loopSame (a b : List Int) (hal : a.length ≤ 200000000000000) (c d : Bool) (K : Kont) (R : Bool → Option V) (cd : Code) (ha : loopIn Tryd.prog 37 4 = some cd)
    (hE : ans (K (.exit 0) (Sl 26 .wild [(0, .sl (enc8 a) 1 c), (1, .sl (enc8 b) 1 d), (4, .bool false), (12, .int .i64 a.length), (13, .int .i64 a.length)]) []) = R true)
    (hR : ∀ z, ans (K .ret (Sl 26 .wild [(0, .sl (enc8 a) 1 c), (1, .sl (enc8 b) 1 d), (4, .bool false), (12, .int .i64 a.length), (13, .int .i64 z)]) []) = R false) :
    ∀ (xs ys ad bd : List Int), a = ad ++ xs → b = bd ++ ys → ad.length = bd.length → xs.length = ys.length →
    ans (loopL lore 37 cd (Sl 26 .wild [(0, .sl (enc8 a) 1 c), (1, .sl (enc8 b) 1 d), (4, .bool false), (12, .int .i64 a.length), (13, .int .i64 (ad.length : Nat))]) [] K) = R (decide (xs = ys)) := by
  have hk := loop_key ha
  simp only [loopIn, Tryd.func37, Tryd.f37, loopAt, Option.bind_some, codeKey, if_true, Option.some.injEq, Nat.reduceEqDiff, if_false] at ha
  intro xs
  induction xs with
  | nil =>
    intro ys ad bd h1 h2 h3 h4
    obtain rfl : ys = [] := List.length_eq_zero_iff.1 h4.symm
    have hl : ad.length = a.length := by rw [h1]; simp
    have hlt : ¬ ((a.length : Nat) : Int) < (a.length : Int) := by omega
    rw [hl, loopL_step' ha]
    repeat' (first | (refine cond_by (F := ans) (fun _ => ?_) (fun _ => ?_)) | (refine wayK_by (F := ans) (fun _ hb_ => ?_) (fun _ hb_ => ?_) <;> simp only [hb_]) | (refine wayK_byN (F := ans) (fun _ hb_ => ?_) (fun _ hb_ => ?_) <;> simp only [hb_]) | (refine wayD_by (F := ans) (fun _ hb_ => ?_) (fun _ hb_ => ?_) <;> simp only [hb_]) | (refine wayD_byN (F := ans) (fun _ hb_ => ?_) (fun _ hb_ => ?_) <;> simp only [hb_]) | (refine rdK_by (F := ans) (fun _ => ?_) (fun _ => ?_)) | (refine effK_by (F := ans) (fun _ => ?_) (fun _ => ?_)) | (refine effK_by2 (F := ans) (fun _ => ?_) (fun _ => ?_)) | (refine rdD_by (F := ans) (fun _ => ?_) (fun _ => ?_)) | (refine effD_by (F := ans) (fun _ => ?_) (fun _ => ?_)) | (refine effD_by2 (F := ans) (fun _ => ?_) (fun _ => ?_)) | simp -implicitDefEqProofs (disch := first | omega | (simp only [List.length_append, List.length_cons, List.length_nil, List.length_drop, List.length_take]; omega)) only [evs, tys, lors, Nat.reduceAdd, Nat.reduceSub, Nat.reduceMul, Nat.reducePow, Nat.reduceBEq, Nat.reduceLT, Nat.reduceLeDiff, Nat.reduceEqDiff, Int.reduceLT, Int.reduceLE, Int.reduceEq, Int.reduceNe, Int.reduceToNat, Int.reduceAdd, Int.reduceSub, Int.reduceMul, Int.reducePow, Int.reduceDiv, Int.reduceMod, Int.reduceNeg, reduceCtorEq, codeKey, List.contains, List.elem, Ev.load, peek, pack, storeV, fieldAddr, field, cvB, hk, hlt, decide_false, decide_true])
    exact hE
  | cons x xs ih =>
    intro ys ad bd h1 h2 h3 h4
    cases ys with
    | nil => simp at h4
    | cons y ys =>
      have hlt : ((ad.length : Nat) : Int) < (a.length : Int) := by rw [h1]; simp; omega
      have e1 : (enc8 a)[ad.length]? = some (.int .u8 x) := by rw [h1]; exact enc8_get ad x xs
      have e2 : (enc8 b)[ad.length]? = some (.int .u8 y) := by rw [h2, h3]; exact enc8_get bd y ys
      have hnx := ih ys (ad ++ [x]) (bd ++ [y]) (by rw [h1, List.append_assoc]; rfl) (by rw [h2, List.append_assoc]; rfl) (by simp; exact h3) (by simpa using h4)
      have hl2 : ((ad ++ [x]).length : Int) = (ad.length : Int) + 1 := by simp
      rw [hl2] at hnx
      have l1 := enc8_len a
      have l2 := enc8_len b
      have hlb : ad.length < b.length := by rw [h2, h3]; simp
      have hla : ad.length < a.length := by omega
      rw [loopL_step' ha]
      by_cases hxy : x = y
      · have hd : (decide (x :: xs = y :: ys)) = decide (xs = ys) := by rw [decide_eq_decide]; simp [hxy]
        rw [hd]
        repeat' (first | (refine cond_by (F := ans) (fun _ => ?_) (fun _ => ?_)) | (refine wayK_by (F := ans) (fun _ hb_ => ?_) (fun _ hb_ => ?_) <;> simp only [hb_]) | (refine wayK_byN (F := ans) (fun _ hb_ => ?_) (fun _ hb_ => ?_) <;> simp only [hb_]) | (refine wayD_by (F := ans) (fun _ hb_ => ?_) (fun _ hb_ => ?_) <;> simp only [hb_]) | (refine wayD_byN (F := ans) (fun _ hb_ => ?_) (fun _ hb_ => ?_) <;> simp only [hb_]) | (refine rdK_by (F := ans) (fun _ => ?_) (fun _ => ?_)) | (refine effK_by (F := ans) (fun _ => ?_) (fun _ => ?_)) | (refine effK_by2 (F := ans) (fun _ => ?_) (fun _ => ?_)) | (refine rdD_by (F := ans) (fun _ => ?_) (fun _ => ?_)) | (refine effD_by (F := ans) (fun _ => ?_) (fun _ => ?_)) | (refine effD_by2 (F := ans) (fun _ => ?_) (fun _ => ?_)) | simp -implicitDefEqProofs (disch := first | omega | (simp only [List.length_append, List.length_cons, List.length_nil, List.length_drop, List.length_take]; omega)) only [evs, tys, lors, Nat.reduceAdd, Nat.reduceSub, Nat.reduceMul, Nat.reducePow, Nat.reduceBEq, Nat.reduceLT, Nat.reduceLeDiff, Nat.reduceEqDiff, Int.reduceLT, Int.reduceLE, Int.reduceEq, Int.reduceNe, Int.reduceToNat, Int.reduceAdd, Int.reduceSub, Int.reduceMul, Int.reducePow, Int.reduceDiv, Int.reduceMod, Int.reduceNeg, reduceCtorEq, codeKey, List.contains, List.elem, Ev.load, peek, pack, storeV, fieldAddr, field, cvB, hk, hlt, e1, e2, l1, l2, hlb, hla, hxy, Int.toNat_natCast, decide_true, decide_false])
        all_goals first | exact hnx | trace_state
      · have hd : (decide (x :: xs = y :: ys)) = false := by rw [decide_eq_false]; simp [hxy]
        rw [hd]
        repeat' (first | (refine cond_by (F := ans) (fun _ => ?_) (fun _ => ?_)) | (refine wayK_by (F := ans) (fun _ hb_ => ?_) (fun _ hb_ => ?_) <;> simp only [hb_]) | (refine wayK_byN (F := ans) (fun _ hb_ => ?_) (fun _ hb_ => ?_) <;> simp only [hb_]) | (refine wayD_by (F := ans) (fun _ hb_ => ?_) (fun _ hb_ => ?_) <;> simp only [hb_]) | (refine wayD_byN (F := ans) (fun _ hb_ => ?_) (fun _ hb_ => ?_) <;> simp only [hb_]) | (refine rdK_by (F := ans) (fun _ => ?_) (fun _ => ?_)) | (refine effK_by (F := ans) (fun _ => ?_) (fun _ => ?_)) | (refine effK_by2 (F := ans) (fun _ => ?_) (fun _ => ?_)) | (refine rdD_by (F := ans) (fun _ => ?_) (fun _ => ?_)) | (refine effD_by (F := ans) (fun _ => ?_) (fun _ => ?_)) | (refine effD_by2 (F := ans) (fun _ => ?_) (fun _ => ?_)) | simp -implicitDefEqProofs (disch := first | omega | (simp only [List.length_append, List.length_cons, List.length_nil, List.length_drop, List.length_take]; omega)) only [evs, tys, lors, Nat.reduceAdd, Nat.reduceSub, Nat.reduceMul, Nat.reducePow, Nat.reduceBEq, Nat.reduceLT, Nat.reduceLeDiff, Nat.reduceEqDiff, Int.reduceLT, Int.reduceLE, Int.reduceEq, Int.reduceNe, Int.reduceToNat, Int.reduceAdd, Int.reduceSub, Int.reduceMul, Int.reducePow, Int.reduceDiv, Int.reduceMod, Int.reduceNeg, reduceCtorEq, codeKey, List.contains, List.elem, Ev.load, peek, pack, storeV, fieldAddr, field, cvB, hk, hlt, e1, e2, l1, l2, hlb, hla, hxy, Int.toNat_natCast, decide_true, decide_false])
        all_goals first | exact hR _ | trace_state
theorem same_cv (a b : List Int) (hal : a.length ≤ 200000000000000) (c d : Bool) (H : Heap) : callV (CL lore) 37 [.sl (enc8 a) 1 c, .sl (enc8 b) 1 d] H = some (.bool (decide (a = b)), H) := by
  refine callV_ans (r := some _) ?_ lore_sh37 rfl H
  have l1 := enc8_len a
  have l2 := enc8_len b
  rw [call_start lore_ext37 Tryd.func37 rfl lore_okf37 (Nat.le_of_ble_eq_true rfl)]
  by_cases hl : a.length = b.length
  · have hl2 : (a.length : Int) = b.length := by omega
    have hl3 : ¬ ¬ (a.length : Int) = b.length := fun h => h hl2
    repeat' (first | (refine cond_by (F := ans) (fun _ => ?_) (fun _ => ?_)) | (refine wayK_by (F := ans) (fun _ hb_ => ?_) (fun _ hb_ => ?_) <;> simp only [hb_]) | (refine wayK_byN (F := ans) (fun _ hb_ => ?_) (fun _ hb_ => ?_) <;> simp only [hb_]) | (refine wayD_by (F := ans) (fun _ hb_ => ?_) (fun _ hb_ => ?_) <;> simp only [hb_]) | (refine wayD_byN (F := ans) (fun _ hb_ => ?_) (fun _ hb_ => ?_) <;> simp only [hb_]) | (refine rdK_by (F := ans) (fun _ => ?_) (fun _ => ?_)) | (refine effK_by (F := ans) (fun _ => ?_) (fun _ => ?_)) | (refine effK_by2 (F := ans) (fun _ => ?_) (fun _ => ?_)) | (refine rdD_by (F := ans) (fun _ => ?_) (fun _ => ?_)) | (refine effD_by (F := ans) (fun _ => ?_) (fun _ => ?_)) | (refine effD_by2 (F := ans) (fun _ => ?_) (fun _ => ?_)) | simp -implicitDefEqProofs (disch := first | omega | (simp only [List.length_append, List.length_cons, List.length_nil, List.length_drop, List.length_take]; omega)) only [evs, tys, lors, Nat.reduceAdd, Nat.reduceSub, Nat.reduceMul, Nat.reducePow, Nat.reduceBEq, Nat.reduceLT, Nat.reduceLeDiff, Nat.reduceEqDiff, Int.reduceLT, Int.reduceLE, Int.reduceEq, Int.reduceNe, Int.reduceToNat, Int.reduceAdd, Int.reduceSub, Int.reduceMul, Int.reducePow, Int.reduceDiv, Int.reduceMod, Int.reduceNeg, reduceCtorEq, codeKey, List.contains, List.elem, Ev.load, peek, pack, storeV, fieldAddr, field, cvB, l1, l2, hl, decide_false])
    rw [← hl]
    refine loopSame a b hal c d _ (fun x => some (.bool x)) _ (by rfl) ?_ ?_ a b [] [] rfl rfl rfl hl
    · repeat' (first | (refine cond_by (F := ans) (fun _ => ?_) (fun _ => ?_)) | (refine wayK_by (F := ans) (fun _ hb_ => ?_) (fun _ hb_ => ?_) <;> simp only [hb_]) | (refine wayK_byN (F := ans) (fun _ hb_ => ?_) (fun _ hb_ => ?_) <;> simp only [hb_]) | (refine wayD_by (F := ans) (fun _ hb_ => ?_) (fun _ hb_ => ?_) <;> simp only [hb_]) | (refine wayD_byN (F := ans) (fun _ hb_ => ?_) (fun _ hb_ => ?_) <;> simp only [hb_]) | (refine rdK_by (F := ans) (fun _ => ?_) (fun _ => ?_)) | (refine effK_by (F := ans) (fun _ => ?_) (fun _ => ?_)) | (refine effK_by2 (F := ans) (fun _ => ?_) (fun _ => ?_)) | (refine rdD_by (F := ans) (fun _ => ?_) (fun _ => ?_)) | (refine effD_by (F := ans) (fun _ => ?_) (fun _ => ?_)) | (refine effD_by2 (F := ans) (fun _ => ?_) (fun _ => ?_)) | simp -implicitDefEqProofs (disch := first | omega | (simp only [List.length_append, List.length_cons, List.length_nil, List.length_drop, List.length_take]; omega)) only [evs, tys, lors, Nat.reduceAdd, Nat.reduceSub, Nat.reduceMul, Nat.reducePow, Nat.reduceBEq, Nat.reduceLT, Nat.reduceLeDiff, Nat.reduceEqDiff, Int.reduceLT, Int.reduceLE, Int.reduceEq, Int.reduceNe, Int.reduceToNat, Int.reduceAdd, Int.reduceSub, Int.reduceMul, Int.reducePow, Int.reduceDiv, Int.reduceMod, Int.reduceNeg, reduceCtorEq, codeKey, List.contains, List.elem, Ev.load, peek, pack, storeV, fieldAddr, field, cvB])
    · intro z
      repeat' (first | (refine cond_by (F := ans) (fun _ => ?_) (fun _ => ?_)) | (refine wayK_by (F := ans) (fun _ hb_ => ?_) (fun _ hb_ => ?_) <;> simp only [hb_]) | (refine wayK_byN (F := ans) (fun _ hb_ => ?_) (fun _ hb_ => ?_) <;> simp only [hb_]) | (refine wayD_by (F := ans) (fun _ hb_ => ?_) (fun _ hb_ => ?_) <;> simp only [hb_]) | (refine wayD_byN (F := ans) (fun _ hb_ => ?_) (fun _ hb_ => ?_) <;> simp only [hb_]) | (refine rdK_by (F := ans) (fun _ => ?_) (fun _ => ?_)) | (refine effK_by (F := ans) (fun _ => ?_) (fun _ => ?_)) | (refine effK_by2 (F := ans) (fun _ => ?_) (fun _ => ?_)) | (refine rdD_by (F := ans) (fun _ => ?_) (fun _ => ?_)) | (refine effD_by (F := ans) (fun _ => ?_) (fun _ => ?_)) | (refine effD_by2 (F := ans) (fun _ => ?_) (fun _ => ?_)) | simp -implicitDefEqProofs (disch := first | omega | (simp only [List.length_append, List.length_cons, List.length_nil, List.length_drop, List.length_take]; omega)) only [evs, tys, lors, Nat.reduceAdd, Nat.reduceSub, Nat.reduceMul, Nat.reducePow, Nat.reduceBEq, Nat.reduceLT, Nat.reduceLeDiff, Nat.reduceEqDiff, Int.reduceLT, Int.reduceLE, Int.reduceEq, Int.reduceNe, Int.reduceToNat, Int.reduceAdd, Int.reduceSub, Int.reduceMul, Int.reducePow, Int.reduceDiv, Int.reduceMod, Int.reduceNeg, reduceCtorEq, codeKey, List.contains, List.elem, Ev.load, peek, pack, storeV, fieldAddr, field, cvB])
  · have hl2 : ¬ (a.length : Int) = b.length := by omega
    have hd : (decide (a = b)) = false := by rw [decide_eq_false]; exact fun h => hl (by rw [h])
    rw [hd]
    repeat' (first | (refine cond_by (F := ans) (fun _ => ?_) (fun _ => ?_)) | (refine wayK_by (F := ans) (fun _ hb_ => ?_) (fun _ hb_ => ?_) <;> simp only [hb_]) | (refine wayK_byN (F := ans) (fun _ hb_ => ?_) (fun _ hb_ => ?_) <;> simp only [hb_]) | (refine wayD_by (F := ans) (fun _ hb_ => ?_) (fun _ hb_ => ?_) <;> simp only [hb_]) | (refine wayD_byN (F := ans) (fun _ hb_ => ?_) (fun _ hb_ => ?_) <;> simp only [hb_]) | (refine rdK_by (F := ans) (fun _ => ?_) (fun _ => ?_)) | (refine effK_by (F := ans) (fun _ => ?_) (fun _ => ?_)) | (refine effK_by2 (F := ans) (fun _ => ?_) (fun _ => ?_)) | (refine rdD_by (F := ans) (fun _ => ?_) (fun _ => ?_)) | (refine effD_by (F := ans) (fun _ => ?_) (fun _ => ?_)) | (refine effD_by2 (F := ans) (fun _ => ?_) (fun _ => ?_)) | simp -implicitDefEqProofs (disch := first | omega | (simp only [List.length_append, List.length_cons, List.length_nil, List.length_drop, List.length_take]; omega)) only [evs, tys, lors, Nat.reduceAdd, Nat.reduceSub, Nat.reduceMul, Nat.reducePow, Nat.reduceBEq, Nat.reduceLT, Nat.reduceLeDiff, Nat.reduceEqDiff, Int.reduceLT, Int.reduceLE, Int.reduceEq, Int.reduceNe, Int.reduceToNat, Int.reduceAdd, Int.reduceSub, Int.reduceMul, Int.reducePow, Int.reduceDiv, Int.reduceMod, Int.reduceNeg, reduceCtorEq, codeKey, List.contains, List.elem, Ev.load, peek, pack, storeV, fieldAddr, field, cvB, l1, l2, hl2, decide_true])
theorem bytes_cv (a b : List Int) (hal : a.length ≤ 200000000000000) (c d : Bool) (H : Heap) : callV (CL lore) 14 [.sl (enc8 a) 1 c, .sl (enc8 b) 1 d] H = some (.bool (decide (a = b)), H) := by
  refine callV_ans (r := some _) ?_ lore_sh14 rfl H
  rw [call_start lore_ext14 Tryd.func14 rfl lore_okf14 (Nat.le_of_ble_eq_true rfl)]
  repeat' (first | (refine cond_by (F := ans) (fun _ => ?_) (fun _ => ?_)) | (refine wayK_by (F := ans) (fun _ hb_ => ?_) (fun _ hb_ => ?_) <;> simp only [hb_]) | (refine wayK_byN (F := ans) (fun _ hb_ => ?_) (fun _ hb_ => ?_) <;> simp only [hb_]) | (refine wayD_by (F := ans) (fun _ hb_ => ?_) (fun _ hb_ => ?_) <;> simp only [hb_]) | (refine wayD_byN (F := ans) (fun _ hb_ => ?_) (fun _ hb_ => ?_) <;> simp only [hb_]) | (refine rdK_by (F := ans) (fun _ => ?_) (fun _ => ?_)) | (refine effK_by (F := ans) (fun _ => ?_) (fun _ => ?_)) | (refine effK_by2 (F := ans) (fun _ => ?_) (fun _ => ?_)) | (refine rdD_by (F := ans) (fun _ => ?_) (fun _ => ?_)) | (refine effD_by (F := ans) (fun _ => ?_) (fun _ => ?_)) | (refine effD_by2 (F := ans) (fun _ => ?_) (fun _ => ?_)) | simp -implicitDefEqProofs (disch := first | omega | (simp only [List.length_append, List.length_cons, List.length_nil, List.length_drop, List.length_take]; omega)) only [evs, tys, lors, Nat.reduceAdd, Nat.reduceSub, Nat.reduceMul, Nat.reducePow, Nat.reduceBEq, Nat.reduceLT, Nat.reduceLeDiff, Nat.reduceEqDiff, Int.reduceLT, Int.reduceLE, Int.reduceEq, Int.reduceNe, Int.reduceToNat, Int.reduceAdd, Int.reduceSub, Int.reduceMul, Int.reducePow, Int.reduceDiv, Int.reduceMod, Int.reduceNeg, reduceCtorEq, codeKey, List.contains, List.elem, Ev.load, peek, pack, storeV, fieldAddr, field, cvB, same_cv a b hal c d])
theorem loopPts (a b : List (Int × Nat)) (hal : a.length ≤ 200000000000000) (hda : DotsOk a) (hdb : DotsOk b) (c d : Bool) (K : Kont) (R : Bool → Option V) (cd : Code) (ha : loopIn Tryd.prog 15 4 = some cd)
    (hE : ans (K (.exit 0) (Sl 43 .wild [(0, .sl (encD a) 2 c), (1, .sl (encD b) 2 d), (4, .bool false), (12, .int .i64 a.length), (13, .int .i64 a.length)]) []) = R true)
    (hR : ∀ z, ans (K .ret (Sl 43 .wild [(0, .sl (encD a) 2 c), (1, .sl (encD b) 2 d), (4, .bool false), (12, .int .i64 a.length), (13, .int .i64 z)]) []) = R false) :
    ∀ (xs ys ad bd : List (Int × Nat)), a = ad ++ xs → b = bd ++ ys → ad.length = bd.length → xs.length = ys.length →
    ans (loopL lore 15 cd (Sl 43 .wild [(0, .sl (encD a) 2 c), (1, .sl (encD b) 2 d), (4, .bool false), (12, .int .i64 a.length), (13, .int .i64 (ad.length : Nat))]) [] K) = R (decide (norm xs = norm ys)) := by
  have hk := loop_key ha
  simp only [loopIn, Tryd.func15, Tryd.f15, loopAt, Option.bind_some, codeKey, if_true, Option.some.injEq, Nat.reduceEqDiff, if_false] at ha
  intro xs
  induction xs with
  | nil =>
    intro ys ad bd h1 h2 h3 h4
    obtain rfl : ys = [] := List.length_eq_zero_iff.1 h4.symm
    have hl : ad.length = a.length := by rw [h1]; simp
    have hlt : ¬ ((a.length : Nat) : Int) < (a.length : Int) := by omega
    rw [hl, loopL_step' ha]
    repeat' (first | (refine cond_by (F := ans) (fun _ => ?_) (fun _ => ?_)) | (refine wayK_by (F := ans) (fun _ hb_ => ?_) (fun _ hb_ => ?_) <;> simp only [hb_]) | (refine wayK_byN (F := ans) (fun _ hb_ => ?_) (fun _ hb_ => ?_) <;> simp only [hb_]) | (refine wayD_by (F := ans) (fun _ hb_ => ?_) (fun _ hb_ => ?_) <;> simp only [hb_]) | (refine wayD_byN (F := ans) (fun _ hb_ => ?_) (fun _ hb_ => ?_) <;> simp only [hb_]) | (refine rdK_by (F := ans) (fun _ => ?_) (fun _ => ?_)) | (refine effK_by (F := ans) (fun _ => ?_) (fun _ => ?_)) | (refine effK_by2 (F := ans) (fun _ => ?_) (fun _ => ?_)) | (refine rdD_by (F := ans) (fun _ => ?_) (fun _ => ?_)) | (refine effD_by (F := ans) (fun _ => ?_) (fun _ => ?_)) | (refine effD_by2 (F := ans) (fun _ => ?_) (fun _ => ?_)) | simp -implicitDefEqProofs (disch := first | omega | (simp only [List.length_append, List.length_cons, List.length_nil, List.length_drop, List.length_take]; omega)) only [evs, tys, lors, Nat.reduceAdd, Nat.reduceSub, Nat.reduceMul, Nat.reducePow, Nat.reduceBEq, Nat.reduceLT, Nat.reduceLeDiff, Nat.reduceEqDiff, Int.reduceLT, Int.reduceLE, Int.reduceEq, Int.reduceNe, Int.reduceToNat, Int.reduceAdd, Int.reduceSub, Int.reduceMul, Int.reducePow, Int.reduceDiv, Int.reduceMod, Int.reduceNeg, reduceCtorEq, codeKey, List.contains, List.elem, Ev.load, peek, pack, storeV, fieldAddr, field, cvB, hk, hlt, decide_false, decide_true])
    exact hE
  | cons x xs ih =>
    intro ys ad bd h1 h2 h3 h4
    cases ys with
    | nil => simp at h4
    | cons y ys =>
      have hlt : ((ad.length : Nat) : Int) < (a.length : Int) := by rw [h1]; simp; omega
      have e1 : (encD a)[ad.length]? = some (.agg [.int .i64 x.1, .fl .f64 x.2]) := by rw [h1]; exact encD_get ad x xs
      have e2 : (encD b)[ad.length]? = some (.agg [.int .i64 y.1, .fl .f64 y.2]) := by rw [h2, h3]; exact encD_get bd y ys
      have hnx := ih ys (ad ++ [x]) (bd ++ [y]) (by rw [h1, List.append_assoc]; rfl) (by rw [h2, List.append_assoc]; rfl) (by simp; exact h3) (by simpa using h4)
      have hl2 : ((ad ++ [x]).length : Int) = (ad.length : Int) + 1 := by simp
      rw [hl2] at hnx
      have l1 := encD_len a
      have l2 := encD_len b
      have hlb : ad.length < b.length := by rw [h2, h3]; simp
      have hla : ad.length < a.length := by omega
      have bx := rbits_cv x.2 (hda x (by rw [h1]; simp)).2
      have by' := rbits_cv y.2 (hdb y (by rw [h2]; simp)).2
      rw [loopL_step' ha]
      by_cases hxy : x.1 = y.1
      · by_cases hv : vbN x.2 = vbN y.2
        · have hd : (decide (norm (x :: xs) = norm (y :: ys))) = decide (norm xs = norm ys) := by rw [decide_eq_decide]; simp [norm, hxy, hv]
          rw [hd]
          repeat' (first | (refine cond_by (F := ans) (fun _ => ?_) (fun _ => ?_)) | (refine wayK_by (F := ans) (fun _ hb_ => ?_) (fun _ hb_ => ?_) <;> simp only [hb_]) | (refine wayK_byN (F := ans) (fun _ hb_ => ?_) (fun _ hb_ => ?_) <;> simp only [hb_]) | (refine wayD_by (F := ans) (fun _ hb_ => ?_) (fun _ hb_ => ?_) <;> simp only [hb_]) | (refine wayD_byN (F := ans) (fun _ hb_ => ?_) (fun _ hb_ => ?_) <;> simp only [hb_]) | (refine rdK_by (F := ans) (fun _ => ?_) (fun _ => ?_)) | (refine effK_by (F := ans) (fun _ => ?_) (fun _ => ?_)) | (refine effK_by2 (F := ans) (fun _ => ?_) (fun _ => ?_)) | (refine rdD_by (F := ans) (fun _ => ?_) (fun _ => ?_)) | (refine effD_by (F := ans) (fun _ => ?_) (fun _ => ?_)) | (refine effD_by2 (F := ans) (fun _ => ?_) (fun _ => ?_)) | simp -implicitDefEqProofs (disch := first | omega | (simp only [List.length_append, List.length_cons, List.length_nil, List.length_drop, List.length_take]; omega)) only [evs, tys, lors, Nat.reduceAdd, Nat.reduceSub, Nat.reduceMul, Nat.reducePow, Nat.reduceBEq, Nat.reduceLT, Nat.reduceLeDiff, Nat.reduceEqDiff, Int.reduceLT, Int.reduceLE, Int.reduceEq, Int.reduceNe, Int.reduceToNat, Int.reduceAdd, Int.reduceSub, Int.reduceMul, Int.reducePow, Int.reduceDiv, Int.reduceMod, Int.reduceNeg, reduceCtorEq, codeKey, List.contains, List.elem, Ev.load, peek, pack, storeV, fieldAddr, field, cvB, hk, hlt, e1, e2, l1, l2, hlb, hla, hxy, hv, bx, by', Int.toNat_natCast, decide_true, decide_false])
          all_goals first | exact hnx | trace_state
        · have hd : (decide (norm (x :: xs) = norm (y :: ys))) = false := by rw [decide_eq_false]; simp [norm, hxy, hv]
          have hv2 : ¬ ((vbN x.2 : Nat) : Int) = (vbN y.2 : Nat) := by omega
          rw [hd]
          repeat' (first | (refine cond_by (F := ans) (fun _ => ?_) (fun _ => ?_)) | (refine wayK_by (F := ans) (fun _ hb_ => ?_) (fun _ hb_ => ?_) <;> simp only [hb_]) | (refine wayK_byN (F := ans) (fun _ hb_ => ?_) (fun _ hb_ => ?_) <;> simp only [hb_]) | (refine wayD_by (F := ans) (fun _ hb_ => ?_) (fun _ hb_ => ?_) <;> simp only [hb_]) | (refine wayD_byN (F := ans) (fun _ hb_ => ?_) (fun _ hb_ => ?_) <;> simp only [hb_]) | (refine rdK_by (F := ans) (fun _ => ?_) (fun _ => ?_)) | (refine effK_by (F := ans) (fun _ => ?_) (fun _ => ?_)) | (refine effK_by2 (F := ans) (fun _ => ?_) (fun _ => ?_)) | (refine rdD_by (F := ans) (fun _ => ?_) (fun _ => ?_)) | (refine effD_by (F := ans) (fun _ => ?_) (fun _ => ?_)) | (refine effD_by2 (F := ans) (fun _ => ?_) (fun _ => ?_)) | simp -implicitDefEqProofs (disch := first | omega | (simp only [List.length_append, List.length_cons, List.length_nil, List.length_drop, List.length_take]; omega)) only [evs, tys, lors, Nat.reduceAdd, Nat.reduceSub, Nat.reduceMul, Nat.reducePow, Nat.reduceBEq, Nat.reduceLT, Nat.reduceLeDiff, Nat.reduceEqDiff, Int.reduceLT, Int.reduceLE, Int.reduceEq, Int.reduceNe, Int.reduceToNat, Int.reduceAdd, Int.reduceSub, Int.reduceMul, Int.reducePow, Int.reduceDiv, Int.reduceMod, Int.reduceNeg, reduceCtorEq, codeKey, List.contains, List.elem, Ev.load, peek, pack, storeV, fieldAddr, field, cvB, hk, hlt, e1, e2, l1, l2, hlb, hla, hxy, hv2, bx, by', Int.toNat_natCast, decide_true, decide_false])
          all_goals first | exact hR _ | trace_state
      · have hd : (decide (norm (x :: xs) = norm (y :: ys))) = false := by rw [decide_eq_false]; simp [norm, hxy]
        rw [hd]
        repeat' (first | (refine cond_by (F := ans) (fun _ => ?_) (fun _ => ?_)) | (refine wayK_by (F := ans) (fun _ hb_ => ?_) (fun _ hb_ => ?_) <;> simp only [hb_]) | (refine wayK_byN (F := ans) (fun _ hb_ => ?_) (fun _ hb_ => ?_) <;> simp only [hb_]) | (refine wayD_by (F := ans) (fun _ hb_ => ?_) (fun _ hb_ => ?_) <;> simp only [hb_]) | (refine wayD_byN (F := ans) (fun _ hb_ => ?_) (fun _ hb_ => ?_) <;> simp only [hb_]) | (refine rdK_by (F := ans) (fun _ => ?_) (fun _ => ?_)) | (refine effK_by (F := ans) (fun _ => ?_) (fun _ => ?_)) | (refine effK_by2 (F := ans) (fun _ => ?_) (fun _ => ?_)) | (refine rdD_by (F := ans) (fun _ => ?_) (fun _ => ?_)) | (refine effD_by (F := ans) (fun _ => ?_) (fun _ => ?_)) | (refine effD_by2 (F := ans) (fun _ => ?_) (fun _ => ?_)) | simp -implicitDefEqProofs (disch := first | omega | (simp only [List.length_append, List.length_cons, List.length_nil, List.length_drop, List.length_take]; omega)) only [evs, tys, lors, Nat.reduceAdd, Nat.reduceSub, Nat.reduceMul, Nat.reducePow, Nat.reduceBEq, Nat.reduceLT, Nat.reduceLeDiff, Nat.reduceEqDiff, Int.reduceLT, Int.reduceLE, Int.reduceEq, Int.reduceNe, Int.reduceToNat, Int.reduceAdd, Int.reduceSub, Int.reduceMul, Int.reducePow, Int.reduceDiv, Int.reduceMod, Int.reduceNeg, reduceCtorEq, codeKey, List.contains, List.elem, Ev.load, peek, pack, storeV, fieldAddr, field, cvB, hk, hlt, e1, e2, l1, l2, hlb, hla, hxy, Int.toNat_natCast, decide_true, decide_false])
        all_goals first | exact hR _ | trace_state
theorem points_cv (a b : List (Int × Nat)) (hal : a.length ≤ 200000000000000) (hda : DotsOk a) (hdb : DotsOk b) (c d : Bool) (H : Heap) : callV (CL lore) 15 [.sl (encD a) 2 c, .sl (encD b) 2 d] H = some (.bool (decide (norm a = norm b)), H) := by
  refine callV_ans (r := some _) ?_ lore_sh15 rfl H
  have l1 := encD_len a
  have l2 := encD_len b
  rw [call_start lore_ext15 Tryd.func15 rfl lore_okf15 (Nat.le_of_ble_eq_true rfl)]
  by_cases hl : a.length = b.length
  · repeat' (first | (refine cond_by (F := ans) (fun _ => ?_) (fun _ => ?_)) | (refine wayK_by (F := ans) (fun _ hb_ => ?_) (fun _ hb_ => ?_) <;> simp only [hb_]) | (refine wayK_byN (F := ans) (fun _ hb_ => ?_) (fun _ hb_ => ?_) <;> simp only [hb_]) | (refine wayD_by (F := ans) (fun _ hb_ => ?_) (fun _ hb_ => ?_) <;> simp only [hb_]) | (refine wayD_byN (F := ans) (fun _ hb_ => ?_) (fun _ hb_ => ?_) <;> simp only [hb_]) | (refine rdK_by (F := ans) (fun _ => ?_) (fun _ => ?_)) | (refine effK_by (F := ans) (fun _ => ?_) (fun _ => ?_)) | (refine effK_by2 (F := ans) (fun _ => ?_) (fun _ => ?_)) | (refine rdD_by (F := ans) (fun _ => ?_) (fun _ => ?_)) | (refine effD_by (F := ans) (fun _ => ?_) (fun _ => ?_)) | (refine effD_by2 (F := ans) (fun _ => ?_) (fun _ => ?_)) | simp -implicitDefEqProofs (disch := first | omega | (simp only [List.length_append, List.length_cons, List.length_nil, List.length_drop, List.length_take]; omega)) only [evs, tys, lors, Nat.reduceAdd, Nat.reduceSub, Nat.reduceMul, Nat.reducePow, Nat.reduceBEq, Nat.reduceLT, Nat.reduceLeDiff, Nat.reduceEqDiff, Int.reduceLT, Int.reduceLE, Int.reduceEq, Int.reduceNe, Int.reduceToNat, Int.reduceAdd, Int.reduceSub, Int.reduceMul, Int.reducePow, Int.reduceDiv, Int.reduceMod, Int.reduceNeg, reduceCtorEq, codeKey, List.contains, List.elem, Ev.load, peek, pack, storeV, fieldAddr, field, cvB, l1, l2, hl, decide_false])
    rw [← hl]
    refine loopPts a b hal hda hdb c d _ (fun x => some (.bool x)) _ (by rfl) ?_ ?_ a b [] [] rfl rfl rfl hl
    · repeat' (first | (refine cond_by (F := ans) (fun _ => ?_) (fun _ => ?_)) | (refine wayK_by (F := ans) (fun _ hb_ => ?_) (fun _ hb_ => ?_) <;> simp only [hb_]) | (refine wayK_byN (F := ans) (fun _ hb_ => ?_) (fun _ hb_ => ?_) <;> simp only [hb_]) | (refine wayD_by (F := ans) (fun _ hb_ => ?_) (fun _ hb_ => ?_) <;> simp only [hb_]) | (refine wayD_byN (F := ans) (fun _ hb_ => ?_) (fun _ hb_ => ?_) <;> simp only [hb_]) | (refine rdK_by (F := ans) (fun _ => ?_) (fun _ => ?_)) | (refine effK_by (F := ans) (fun _ => ?_) (fun _ => ?_)) | (refine effK_by2 (F := ans) (fun _ => ?_) (fun _ => ?_)) | (refine rdD_by (F := ans) (fun _ => ?_) (fun _ => ?_)) | (refine effD_by (F := ans) (fun _ => ?_) (fun _ => ?_)) | (refine effD_by2 (F := ans) (fun _ => ?_) (fun _ => ?_)) | simp -implicitDefEqProofs (disch := first | omega | (simp only [List.length_append, List.length_cons, List.length_nil, List.length_drop, List.length_take]; omega)) only [evs, tys, lors, Nat.reduceAdd, Nat.reduceSub, Nat.reduceMul, Nat.reducePow, Nat.reduceBEq, Nat.reduceLT, Nat.reduceLeDiff, Nat.reduceEqDiff, Int.reduceLT, Int.reduceLE, Int.reduceEq, Int.reduceNe, Int.reduceToNat, Int.reduceAdd, Int.reduceSub, Int.reduceMul, Int.reducePow, Int.reduceDiv, Int.reduceMod, Int.reduceNeg, reduceCtorEq, codeKey, List.contains, List.elem, Ev.load, peek, pack, storeV, fieldAddr, field, cvB])
    · intro z
      repeat' (first | (refine cond_by (F := ans) (fun _ => ?_) (fun _ => ?_)) | (refine wayK_by (F := ans) (fun _ hb_ => ?_) (fun _ hb_ => ?_) <;> simp only [hb_]) | (refine wayK_byN (F := ans) (fun _ hb_ => ?_) (fun _ hb_ => ?_) <;> simp only [hb_]) | (refine wayD_by (F := ans) (fun _ hb_ => ?_) (fun _ hb_ => ?_) <;> simp only [hb_]) | (refine wayD_byN (F := ans) (fun _ hb_ => ?_) (fun _ hb_ => ?_) <;> simp only [hb_]) | (refine rdK_by (F := ans) (fun _ => ?_) (fun _ => ?_)) | (refine effK_by (F := ans) (fun _ => ?_) (fun _ => ?_)) | (refine effK_by2 (F := ans) (fun _ => ?_) (fun _ => ?_)) | (refine rdD_by (F := ans) (fun _ => ?_) (fun _ => ?_)) | (refine effD_by (F := ans) (fun _ => ?_) (fun _ => ?_)) | (refine effD_by2 (F := ans) (fun _ => ?_) (fun _ => ?_)) | simp -implicitDefEqProofs (disch := first | omega | (simp only [List.length_append, List.length_cons, List.length_nil, List.length_drop, List.length_take]; omega)) only [evs, tys, lors, Nat.reduceAdd, Nat.reduceSub, Nat.reduceMul, Nat.reducePow, Nat.reduceBEq, Nat.reduceLT, Nat.reduceLeDiff, Nat.reduceEqDiff, Int.reduceLT, Int.reduceLE, Int.reduceEq, Int.reduceNe, Int.reduceToNat, Int.reduceAdd, Int.reduceSub, Int.reduceMul, Int.reducePow, Int.reduceDiv, Int.reduceMod, Int.reduceNeg, reduceCtorEq, codeKey, List.contains, List.elem, Ev.load, peek, pack, storeV, fieldAddr, field, cvB])
  · have hl2 : ¬ (a.length : Int) = b.length := by omega
    have hd : (decide (norm a = norm b)) = false := by
      rw [decide_eq_false]
      intro h
      have := congrArg List.length h
      rw [norm_len, norm_len] at this
      exact hl this
    rw [hd]
    repeat' (first | (refine cond_by (F := ans) (fun _ => ?_) (fun _ => ?_)) | (refine wayK_by (F := ans) (fun _ hb_ => ?_) (fun _ hb_ => ?_) <;> simp only [hb_]) | (refine wayK_byN (F := ans) (fun _ hb_ => ?_) (fun _ hb_ => ?_) <;> simp only [hb_]) | (refine wayD_by (F := ans) (fun _ hb_ => ?_) (fun _ hb_ => ?_) <;> simp only [hb_]) | (refine wayD_byN (F := ans) (fun _ hb_ => ?_) (fun _ hb_ => ?_) <;> simp only [hb_]) | (refine rdK_by (F := ans) (fun _ => ?_) (fun _ => ?_)) | (refine effK_by (F := ans) (fun _ => ?_) (fun _ => ?_)) | (refine effK_by2 (F := ans) (fun _ => ?_) (fun _ => ?_)) | (refine rdD_by (F := ans) (fun _ => ?_) (fun _ => ?_)) | (refine effD_by (F := ans) (fun _ => ?_) (fun _ => ?_)) | (refine effD_by2 (F := ans) (fun _ => ?_) (fun _ => ?_)) | simp -implicitDefEqProofs (disch := first | omega | (simp only [List.length_append, List.length_cons, List.length_nil, List.length_drop, List.length_take]; omega)) only [evs, tys, lors, Nat.reduceAdd, Nat.reduceSub, Nat.reduceMul, Nat.reducePow, Nat.reduceBEq, Nat.reduceLT, Nat.reduceLeDiff, Nat.reduceEqDiff, Int.reduceLT, Int.reduceLE, Int.reduceEq, Int.reduceNe, Int.reduceToNat, Int.reduceAdd, Int.reduceSub, Int.reduceMul, Int.reducePow, Int.reduceDiv, Int.reduceMod, Int.reduceNeg, reduceCtorEq, codeKey, List.contains, List.elem, Ev.load, peek, pack, storeV, fieldAddr, field, cvB, l1, l2, hl2, decide_true])
theorem points_nils (a : List (Int × Nat)) (c : Bool) (H : Heap) (ha : a = []) : callV (CL lore) 15 [.sl (encD a) 2 c, .nils] H = some (.bool true, H) := by
  refine callV_ans (r := some _) ?_ lore_sh15 rfl H
  subst ha
  have e0 : (encD []).length = 0 := rfl
  rw [call_start lore_ext15 Tryd.func15 rfl lore_okf15 (Nat.le_of_ble_eq_true rfl)]
  repeat' (first | (refine cond_by (F := ans) (fun _ => ?_) (fun _ => ?_)) | (refine wayK_by (F := ans) (fun _ hb_ => ?_) (fun _ hb_ => ?_) <;> simp only [hb_]) | (refine wayK_byN (F := ans) (fun _ hb_ => ?_) (fun _ hb_ => ?_) <;> simp only [hb_]) | (refine wayD_by (F := ans) (fun _ hb_ => ?_) (fun _ hb_ => ?_) <;> simp only [hb_]) | (refine wayD_byN (F := ans) (fun _ hb_ => ?_) (fun _ hb_ => ?_) <;> simp only [hb_]) | (refine rdK_by (F := ans) (fun _ => ?_) (fun _ => ?_)) | (refine effK_by (F := ans) (fun _ => ?_) (fun _ => ?_)) | (refine effK_by2 (F := ans) (fun _ => ?_) (fun _ => ?_)) | (refine rdD_by (F := ans) (fun _ => ?_) (fun _ => ?_)) | (refine effD_by (F := ans) (fun _ => ?_) (fun _ => ?_)) | (refine effD_by2 (F := ans) (fun _ => ?_) (fun _ => ?_)) | simp -implicitDefEqProofs (disch := first | omega | (simp only [List.length_append, List.length_cons, List.length_nil, List.length_drop, List.length_take]; omega)) only [evs, tys, lors, Nat.reduceAdd, Nat.reduceSub, Nat.reduceMul, Nat.reducePow, Nat.reduceBEq, Nat.reduceLT, Nat.reduceLeDiff, Nat.reduceEqDiff, Int.reduceLT, Int.reduceLE, Int.reduceEq, Int.reduceNe, Int.reduceToNat, Int.reduceAdd, Int.reduceSub, Int.reduceMul, Int.reducePow, Int.reduceDiv, Int.reduceMod, Int.reduceNeg, reduceCtorEq, codeKey, List.contains, List.elem, Ev.load, peek, pack, storeV, fieldAddr, field, cvB, e0])
  rw [loopL_step' rfl]
  repeat' (first | (refine cond_by (F := ans) (fun _ => ?_) (fun _ => ?_)) | (refine wayK_by (F := ans) (fun _ hb_ => ?_) (fun _ hb_ => ?_) <;> simp only [hb_]) | (refine wayK_byN (F := ans) (fun _ hb_ => ?_) (fun _ hb_ => ?_) <;> simp only [hb_]) | (refine wayD_by (F := ans) (fun _ hb_ => ?_) (fun _ hb_ => ?_) <;> simp only [hb_]) | (refine wayD_byN (F := ans) (fun _ hb_ => ?_) (fun _ hb_ => ?_) <;> simp only [hb_]) | (refine rdK_by (F := ans) (fun _ => ?_) (fun _ => ?_)) | (refine effK_by (F := ans) (fun _ => ?_) (fun _ => ?_)) | (refine effK_by2 (F := ans) (fun _ => ?_) (fun _ => ?_)) | (refine rdD_by (F := ans) (fun _ => ?_) (fun _ => ?_)) | (refine effD_by (F := ans) (fun _ => ?_) (fun _ => ?_)) | (refine effD_by2 (F := ans) (fun _ => ?_) (fun _ => ?_)) | simp -implicitDefEqProofs (disch := first | omega | (simp only [List.length_append, List.length_cons, List.length_nil, List.length_drop, List.length_take]; omega)) only [evs, tys, lors, Nat.reduceAdd, Nat.reduceSub, Nat.reduceMul, Nat.reducePow, Nat.reduceBEq, Nat.reduceLT, Nat.reduceLeDiff, Nat.reduceEqDiff, Int.reduceLT, Int.reduceLE, Int.reduceEq, Int.reduceNe, Int.reduceToNat, Int.reduceAdd, Int.reduceSub, Int.reduceMul, Int.reducePow, Int.reduceDiv, Int.reduceMod, Int.reduceNeg, reduceCtorEq, codeKey, List.contains, List.elem, Ev.load, peek, pack, storeV, fieldAddr, field, cvB, e0])
  all_goals rfl
abbrev ONE : Nat := 4607182418800017408
theorem lives_cv (H : Heap) : callV (CL lore) 13 [] H = some (.bool true, H) := by
  refine callV_ans (r := some _) ?_ lore_sh13 rfl H
  have hd : DotsOk [(1, ONE), (2, ONE), (3, ONE)] := by decide
  have h8 : ∀ H, callV (CL lore) 8 [.sl [.agg [.int .i64 1, .fl .f64 4607182418800017408], .agg [.int .i64 2, .fl .f64 4607182418800017408], .agg [.int .i64 3, .fl .f64 4607182418800017408]] 2 true] H = some (.tup [.sl [.int .u8 0, .int .u8 3, .int .u8 2, .int .u8 63, .int .u8 240, .int .u8 0, .int .u8 0, .int .u8 0, .int .u8 0, .int .u8 0, .int .u8 0, .int .u8 1, .int .u8 0] 1 false, .int .i64 0, .int .i64 0], H) := fun H => (encode_cv [(1, ONE), (2, ONE), (3, ONE)] true hd H).trans (by
    have e : encV [(1, ONE), (2, ONE), (3, ONE)] = .tup [.sl [.int .u8 0, .int .u8 3, .int .u8 2, .int .u8 63, .int .u8 240, .int .u8 0, .int .u8 0, .int .u8 0, .int .u8 0, .int .u8 0, .int .u8 0, .int .u8 1, .int .u8 0] 1 false, .int .i64 0, .int .i64 0] := by kernel_rfl
    rw [e])
  have h10 : ∀ H, callV (CL lore) 10 [.sl [.agg [.int .i64 1, .fl .f64 4607182418800017408], .agg [.int .i64 2, .fl .f64 4607182418800017408], .agg [.int .i64 3, .fl .f64 4607182418800017408]] 2 true] H = some (.tup [.int .i64 83, .int .i64 0], H) := fun H => (bitsN_cv [(1, ONE), (2, ONE), (3, ONE)] true hd H).trans (by
    have e : (encL vbN E0 [(1, ONE), (2, ONE), (3, ONE)]).length = 83 := by kernel_rfl
    have f : fltL [(1, ONE), (2, ONE), (3, ONE)] = none := by decide
    rw [if_neg (by decide), f, e]
    rfl)
  have h11 : ∀ H, callV (CL lore) 11 [.sl [.int .u8 0, .int .u8 3, .int .u8 2, .int .u8 63, .int .u8 240, .int .u8 0, .int .u8 0, .int .u8 0, .int .u8 0, .int .u8 0, .int .u8 0, .int .u8 1, .int .u8 0] 1 false] H = some (.tup [.sl [.agg [.int .i64 1, .fl .f64 4607182418800017408], .agg [.int .i64 2, .fl .f64 4607182418800017408], .agg [.int .i64 3, .fl .f64 4607182418800017408]] 2 false, .int .i64 0], H) := fun H => (decode_cv [0, 3, 2, 63, 240, 0, 0, 0, 0, 0, 0, 1, 0] false (by decide) (by decide) H).trans (by
    have e : decV [0, 3, 2, 63, 240, 0, 0, 0, 0, 0, 0, 1, 0] = .tup [.sl [.agg [.int .i64 1, .fl .f64 4607182418800017408], .agg [.int .i64 2, .fl .f64 4607182418800017408], .agg [.int .i64 3, .fl .f64 4607182418800017408]] 2 false, .int .i64 0] := by kernel_rfl
    rw [e])
  have h14 : ∀ H, callV (CL lore) 14 [.sl [.int .u8 0, .int .u8 3, .int .u8 2, .int .u8 63, .int .u8 240, .int .u8 0, .int .u8 0, .int .u8 0, .int .u8 0, .int .u8 0, .int .u8 0, .int .u8 1, .int .u8 0] 1 false, .sl [.int .u8 0, .int .u8 3, .int .u8 2, .int .u8 63, .int .u8 240, .int .u8 0, .int .u8 0, .int .u8 0, .int .u8 0, .int .u8 0, .int .u8 0, .int .u8 1, .int .u8 0] 1 true] H = some (.bool true, H) := fun H => (bytes_cv [0, 3, 2, 63, 240, 0, 0, 0, 0, 0, 0, 1, 0] [0, 3, 2, 63, 240, 0, 0, 0, 0, 0, 0, 1, 0] (by decide) false true H).trans (by rw [decide_eq_true rfl])
  have hone : (4607182418800017408 : Nat) < 2 ^ FloatKind.f64.format.width := by decide
  rw [call_start lore_ext13 Tryd.func13 rfl lore_okf13 (Nat.le_of_ble_eq_true rfl)]
  repeat' (first | (refine cond_by (F := ans) (fun _ => ?_) (fun _ => ?_)) | (refine wayK_by (F := ans) (fun _ hb_ => ?_) (fun _ hb_ => ?_) <;> simp only [hb_]) | (refine wayK_byN (F := ans) (fun _ hb_ => ?_) (fun _ hb_ => ?_) <;> simp only [hb_]) | (refine wayD_by (F := ans) (fun _ hb_ => ?_) (fun _ hb_ => ?_) <;> simp only [hb_]) | (refine wayD_byN (F := ans) (fun _ hb_ => ?_) (fun _ hb_ => ?_) <;> simp only [hb_]) | (refine rdK_by (F := ans) (fun _ => ?_) (fun _ => ?_)) | (refine effK_by (F := ans) (fun _ => ?_) (fun _ => ?_)) | (refine effK_by2 (F := ans) (fun _ => ?_) (fun _ => ?_)) | (refine rdD_by (F := ans) (fun _ => ?_) (fun _ => ?_)) | (refine effD_by (F := ans) (fun _ => ?_) (fun _ => ?_)) | (refine effD_by2 (F := ans) (fun _ => ?_) (fun _ => ?_)) | simp -implicitDefEqProofs (disch := first | omega | (simp only [List.length_append, List.length_cons, List.length_nil, List.length_drop, List.length_take]; omega)) only [evs, tys, lors, Nat.reduceAdd, Nat.reduceSub, Nat.reduceMul, Nat.reducePow, Nat.reduceBEq, Nat.reduceLT, Nat.reduceLeDiff, Nat.reduceEqDiff, Int.reduceLT, Int.reduceLE, Int.reduceEq, Int.reduceNe, Int.reduceToNat, Int.reduceAdd, Int.reduceSub, Int.reduceMul, Int.reducePow, Int.reduceDiv, Int.reduceMod, Int.reduceNeg, reduceCtorEq, codeKey, List.contains, List.elem, Ev.load, peek, pack, storeV, fieldAddr, field, cvB, hone, h8, h10, h11, h14])
  all_goals trace_state
end Go.Proofs.YtmjdcoacmmmhnaaDoor
