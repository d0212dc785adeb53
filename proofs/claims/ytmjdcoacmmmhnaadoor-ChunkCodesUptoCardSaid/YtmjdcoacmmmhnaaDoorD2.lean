/-
Decode: the points in a row. Decode.
-/
import Derived.Test.YtmjdcoacmmmhnaaDoorB9
namespace Go.Proofs.YtmjdcoacmmmhnaaDoor
open Go Ev
set_option linter.all false
set_option maxHeartbeats 4000000
set_option maxRecDepth 5000
attribute [local irreducible] codeL condL loopL callL callV evOps evDraw rdK effK wayK oneK wayD oneD rdD effD chks chkB res

attribute [local irreducible] RB

theorem decPt_i (L : List Int) (d : DS) : (decPt L d).i = d.i + 1 := by
  obtain ⟨i, p, at_, st, v, f, bad⟩ := d
  match i with
  | 0 => rfl
  | 1 => rfl
  | i + 2 => rfl
theorem D0_ok (L : List Int) : DOk L D0 := ⟨by decide, by decide, by decide, (fun _ h => by cases h), by decide⟩
theorem decL_ok {L : List Int} (hL : Bits01 L) : ∀ (n : Nat) (d : DS), DOk L d → DotsOk (decL L n d).1 ∧ (decL L n d).1.length ≤ n
  | 0, d, h => ⟨fun p hp => by simp [decL] at hp, by simp [decL]⟩
  | n + 1, d, h => by
    rw [decL]
    split
    · exact ⟨fun p hp => by simp at hp, by simp⟩
    · rename_i hs
      have hs : d.short L = false := by simpa using hs
      have h2 := decPt_ok hL h hs
      obtain ⟨i1, i2⟩ := decL_ok hL n _ h2
      refine ⟨fun p hp => ?_, by simp only [List.length_cons]; omega⟩
      simp only [List.mem_cons] at hp
      rcases hp with rfl | hp
      · exact ⟨h2.a, h2.v⟩
      · exact i1 p hp
theorem loopD (by_ : List Int) (c c2 : Bool) (b : List Int) (hby : Us8 by_) (hlen : by_.length ≤ 200000000000000) (n : Nat) (hn : n ≤ 65535) (a : Code) (ha : loopIn Tryd.prog 11 8 = some a) :
    ∀ (m : Nat) (d : DS) (out : List (Int × Nat)) (ov : V) (H : Heap), d.i = out.length → out.length + m = n → 0 < H.length → OutOk H ov out → (d.i ≠ 0 → ∃ o v', out = o ++ [(d.at_, v')]) → DOk (unpack by_) d →
    ∃ H' ov', 0 < List.length H' ∧ OutOk H' ov' (out ++ (decL (unpack by_) m d).1) ∧ ∀ K : Kont,
      res (loopL lore 11 a (Sl 119 .wild [(0, .sl (enc8 b) 1 c), (4, .int .i64 (n : Nat)), (5, .ptr 0 0), (6, ov), (7, .int .u64 d.step), (8, .int .u64 (d.value : Nat)), (9, .int .i64 (out.length : Nat))]) (RB H 0 by_ c2 (d.p : Nat) (d.short (unpack by_)) d.fr) K) =
      res (K (.exit 0) (Sl 119 .wild [(0, .sl (enc8 b) 1 c), (4, .int .i64 (n : Nat)), (5, .ptr 0 0), (6, ov'), (7, .int .u64 (decL (unpack by_) m d).2.step), (8, .int .u64 ((decL (unpack by_) m d).2.value : Nat)), (9, .int .i64 ((out ++ (decL (unpack by_) m d).1).length : Nat))]) (RB H' 0 by_ c2 ((decL (unpack by_) m d).2.p : Nat) ((decL (unpack by_) m d).2.short (unpack by_)) (decL (unpack by_) m d).2.fr)) := by
  have ha' := ha
  have hk := loop_key ha
  simp only [loopIn, Tryd.func11, Tryd.f11, loopAt, Option.bind_some, codeKey, if_true, Option.some.injEq, Nat.reduceEqDiff, if_false] at ha
  intro m
  induction m with
  | zero =>
    intro d out ov H hi hm h0 ho hl hd
    refine ⟨H, ov, h0, by simpa [decL] using ho, fun K => ?_⟩
    have hlt : ¬ ((out.length : Nat) : Int) < (n : Int) := by omega
    simp only [decL, List.append_nil]
    rw [loopL_step' ha]
    repeat' (first | (refine cond_by (F := res) (fun _ => ?_) (fun _ => ?_)) | (refine wayK_by (F := res) (fun _ hb_ => ?_) (fun _ hb_ => ?_) <;> simp only [hb_]) | (refine wayK_byN (F := res) (fun _ hb_ => ?_) (fun _ hb_ => ?_) <;> simp only [hb_]) | (refine wayD_by (F := res) (fun _ hb_ => ?_) (fun _ hb_ => ?_) <;> simp only [hb_]) | (refine wayD_byN (F := res) (fun _ hb_ => ?_) (fun _ hb_ => ?_) <;> simp only [hb_]) | (refine rdK_by (F := res) (fun _ => ?_) (fun _ => ?_)) | (refine effK_by (F := res) (fun _ => ?_) (fun _ => ?_)) | (refine effK_by2 (F := res) (fun _ => ?_) (fun _ => ?_)) | (refine rdD_by (F := res) (fun _ => ?_) (fun _ => ?_)) | (refine effD_by (F := res) (fun _ => ?_) (fun _ => ?_)) | (refine effD_by2 (F := res) (fun _ => ?_) (fun _ => ?_)) | simp -implicitDefEqProofs (disch := first | omega | (simp only [List.length_append, List.length_cons, List.length_nil, List.length_drop, List.length_take]; omega)) only [evs, tys, lors, Nat.reduceAdd, Nat.reduceSub, Nat.reduceMul, Nat.reducePow, Nat.reduceBEq, Nat.reduceLT, Nat.reduceLeDiff, Nat.reduceEqDiff, Int.reduceLT, Int.reduceLE, Int.reduceEq, Int.reduceNe, Int.reduceToNat, Int.reduceAdd, Int.reduceSub, Int.reduceMul, Int.reducePow, Int.reduceDiv, Int.reduceMod, Int.reduceNeg, reduceCtorEq, codeKey, List.contains, List.elem, Ev.load, peek, pack, storeV, fieldAddr, field, cvB, hk, rb_h h0, hlt, decide_false])
  | succ m ih =>
    intro d out ov H hi hm h0 ho hl hd
    have hlt : ((out.length : Nat) : Int) < (n : Int) := by omega
    by_cases hs : d.short (unpack by_) = true
    · refine ⟨H, ov, h0, by simpa [decL, hs] using ho, fun K => ?_⟩
      simp only [decL, hs, if_true, List.append_nil]
      rw [loopL_step' ha]
      repeat' (first | (refine cond_by (F := res) (fun _ => ?_) (fun _ => ?_)) | (refine wayK_by (F := res) (fun _ hb_ => ?_) (fun _ hb_ => ?_) <;> simp only [hb_]) | (refine wayK_byN (F := res) (fun _ hb_ => ?_) (fun _ hb_ => ?_) <;> simp only [hb_]) | (refine wayD_by (F := res) (fun _ hb_ => ?_) (fun _ hb_ => ?_) <;> simp only [hb_]) | (refine wayD_byN (F := res) (fun _ hb_ => ?_) (fun _ hb_ => ?_) <;> simp only [hb_]) | (refine rdK_by (F := res) (fun _ => ?_) (fun _ => ?_)) | (refine effK_by (F := res) (fun _ => ?_) (fun _ => ?_)) | (refine effK_by2 (F := res) (fun _ => ?_) (fun _ => ?_)) | (refine rdD_by (F := res) (fun _ => ?_) (fun _ => ?_)) | (refine effD_by (F := res) (fun _ => ?_) (fun _ => ?_)) | (refine effD_by2 (F := res) (fun _ => ?_) (fun _ => ?_)) | simp -implicitDefEqProofs (disch := first | omega | (simp only [List.length_append, List.length_cons, List.length_nil, List.length_drop, List.length_take]; omega)) only [evs, tys, lors, Nat.reduceAdd, Nat.reduceSub, Nat.reduceMul, Nat.reducePow, Nat.reduceBEq, Nat.reduceLT, Nat.reduceLeDiff, Nat.reduceEqDiff, Int.reduceLT, Int.reduceLE, Int.reduceEq, Int.reduceNe, Int.reduceToNat, Int.reduceAdd, Int.reduceSub, Int.reduceMul, Int.reducePow, Int.reduceDiv, Int.reduceMod, Int.reduceNeg, reduceCtorEq, codeKey, List.contains, List.elem, Ev.load, peek, pack, storeV, fieldAddr, field, cvB, hk, rb_h h0, hlt, decide_true])
    · have hsf : d.short (unpack by_) = false := by simpa using hs
      have hd2 := decPt_ok (unpack_01 by_) hd hsf
      have hi2 := decPt_i (unpack by_) d
      have key : ∃ H2 ov2, 0 < List.length H2 ∧ OutOk H2 ov2 (out ++ [((decPt (unpack by_) d).at_, (decPt (unpack by_) d).value)]) ∧ ∀ K : Kont,
          res (loopL lore 11 a (Sl 119 .wild [(0, .sl (enc8 b) 1 c), (4, .int .i64 (n : Nat)), (5, .ptr 0 0), (6, ov), (7, .int .u64 d.step), (8, .int .u64 (d.value : Nat)), (9, .int .i64 (out.length : Nat))]) (RB H 0 by_ c2 (d.p : Nat) (d.short (unpack by_)) d.fr) K) =
          res (loopL lore 11 a (Sl 119 .wild [(0, .sl (enc8 b) 1 c), (4, .int .i64 (n : Nat)), (5, .ptr 0 0), (6, ov2), (7, .int .u64 (decPt (unpack by_) d).step), (8, .int .u64 ((decPt (unpack by_) d).value : Nat)), (9, .int .i64 ((out.length + 1 : Nat) : Int))]) (RB H2 0 by_ c2 ((decPt (unpack by_) d).p : Nat) ((decPt (unpack by_) d).short (unpack by_)) (decPt (unpack by_) d).fr) K) := by
        rw [hsf]
        rcases ho with ⟨rfl, rfl⟩ | ⟨hne, r, rfl, hr0, hr, hH⟩
        · exact step0 by_ c c2 b hby hlen n (by simp at hm; omega) a ha' d hd hsf hi H h0
        · have hpos := List.length_pos_iff.2 hne
          obtain ⟨o, v', ho'⟩ := hl (by omega)
          have hla : (encD out)[out.length - 1]? = some (.agg [.int .i64 d.at_, .fl .f64 v']) := by
            rw [ho', show (o ++ [(d.at_, v')]).length - 1 = o.length by simp]
            exact encD_get o _ []
          rcases Nat.lt_or_ge out.length 2 with h2 | h2
          · have h1 : out.length = 1 := by omega
            rw [h1] at hla
            obtain ⟨H2, q1, q2, q3, q4⟩ := step1 by_ c c2 b hby hlen n (by omega) a ha' d hd hsf (by omega) H h0 r (by omega) hr out h1 hH v' hla
            refine ⟨H2, _, q1, Or.inr ⟨by simp, r, by rw [List.length_append], hr0, q2, q3⟩, fun K => ?_⟩
            have q4 := q4 K
            rw [h1] at q4 ⊢
            exact q4
          · obtain ⟨k, hk2⟩ : ∃ k, out.length = k + 2 := ⟨out.length - 2, by omega⟩
            rw [hk2, show k + 2 - 1 = k + 1 by omega] at hla
            obtain ⟨H2, q1, q2, q3, q4⟩ := step2 by_ c c2 b hby hlen n k (by omega) (by omega) a ha' d hd hsf (by omega) H h0 r (by omega) hr out hk2 hH v' hla
            refine ⟨H2, _, q1, Or.inr ⟨by simp, r, by rw [List.length_append], hr0, q2, q3⟩, fun K => ?_⟩
            have q4 := q4 K
            rw [hk2] at q4 ⊢
            exact q4
      obtain ⟨H2, ov2, q1, q2, q3⟩ := key
      have hlen2 : (out ++ [((decPt (unpack by_) d).at_, (decPt (unpack by_) d).value)]).length = out.length + 1 := by simp
      obtain ⟨H', ov', r1, r2, r3⟩ := ih (decPt (unpack by_) d) _ ov2 H2 (by rw [hlen2, hi2, hi]) (by rw [hlen2]; omega) q1 q2 (fun _ => ⟨out, _, rfl⟩) hd2
      have hdl : decL (unpack by_) (m + 1) d = (((decPt (unpack by_) d).at_, (decPt (unpack by_) d).value) :: (decL (unpack by_) m (decPt (unpack by_) d)).1, (decL (unpack by_) m (decPt (unpack by_) d)).2) := by
        rw [decL, if_neg hs]
      rw [hdl]
      simp only [List.append_assoc, List.singleton_append] at r2 r3
      rw [hlen2] at r3
      exact ⟨H', ov', r1, r2, fun K => by rw [q3, r3]⟩


theorem packB_us8 : ∀ (n : Nat) (l : List Int), l.length ≤ n → Bits01 l → Us8 (packB l)
  | 0, l, h, _ => by
    obtain rfl : l = [] := List.length_eq_zero_iff.1 (by omega)
    intro x hx
    simp [packB_nil] at hx
  | n + 1, l, h, hb => by
    by_cases hl : l = []
    · subst hl
      intro x hx
      simp [packB_nil] at hx
    · rw [packB_cons hl]
      intro x hx
      rw [List.mem_cons] at hx
      have hpos := List.length_pos_iff.2 hl
      rcases hx with rfl | hx
      · have hb8 : Bits01 (l.take 8 ++ List.replicate (8 - l.length) 0) := bits01_app (bits01_take hb 8) (bits01_zeros _)
        have hv := valB_lt _ 0 hb8
        have hlen : (l.take 8 ++ List.replicate (8 - l.length) 0).length = 8 := by simp; omega
        have e8 : (2 : Int) ^ 8 = 256 := by decide
        rw [hlen, e8] at hv
        omega
      · exact packB_us8 n (l.drop 8) (by simp; omega) (bits01_drop hb 8) x hx
theorem bytesL_us8 {l : List (Int × Nat)} (h : l.length ≤ 65535) : Us8 (bytesL l) := by
  intro x hx
  unfold bytesL at hx
  rw [List.mem_cons, List.mem_cons] at hx
  rcases hx with rfl | rfl | hx
  · omega
  · omega
  · exact packB_us8 _ _ (Nat.le_refl _) (encL_01 vbN l E0) x hx
theorem or_16 {x y : Int} (hx : 0 ≤ x ∧ x < 256) (hy : 0 ≤ y ∧ y < 256) : orI .i64 (x * 256) y = ((x * 256 + y).toNat : Int) := by
  obtain ⟨n, rfl⟩ := Int.eq_ofNat_of_zero_le hx.1
  obtain ⟨m, rfl⟩ := Int.eq_ofNat_of_zero_le hy.1
  have e1 : ((n : Int) * 256) = ((n * 2 ^ 8 : Nat) : Int) := by rw [Int.natCast_mul]; rfl
  show IntKind.i64.wrap ((BitVec.ofInt 64 ((n : Int) * 256) ||| BitVec.ofInt 64 (m : Int)).toNat : Int) = _
  rw [e1, BitVec.toNat_or, ofNat_toNat (by omega), ofNat_toNat (by omega), or_apart (show m < 2 ^ 8 by omega), w_i64 (by omega) (by omega)]
  omega
theorem written_nils : callV (CL lore) 23 [.nils] [] = some (.tup [.ptr 0 0, .int .i64 0, .int .i64 0], [NBX]) := by
  refine callV_sh rfl ?_
  rw [call_start lore_ext23 Tryd.func23 rfl lore_okf23 (Nat.le_of_ble_eq_true rfl)]
  repeat' (first | (refine cond_by (F := res) (fun _ => ?_) (fun _ => ?_)) | (refine wayK_by (F := res) (fun _ hb_ => ?_) (fun _ hb_ => ?_) <;> simp only [hb_]) | (refine wayK_byN (F := res) (fun _ hb_ => ?_) (fun _ hb_ => ?_) <;> simp only [hb_]) | (refine wayD_by (F := res) (fun _ hb_ => ?_) (fun _ hb_ => ?_) <;> simp only [hb_]) | (refine wayD_byN (F := res) (fun _ hb_ => ?_) (fun _ hb_ => ?_) <;> simp only [hb_]) | (refine rdK_by (F := res) (fun _ => ?_) (fun _ => ?_)) | (refine effK_by (F := res) (fun _ => ?_) (fun _ => ?_)) | (refine effK_by2 (F := res) (fun _ => ?_) (fun _ => ?_)) | (refine rdD_by (F := res) (fun _ => ?_) (fun _ => ?_)) | (refine effD_by (F := res) (fun _ => ?_) (fun _ => ?_)) | (refine effD_by2 (F := res) (fun _ => ?_) (fun _ => ?_)) | simp -implicitDefEqProofs (disch := first | omega | (simp only [List.length_append, List.length_cons, List.length_nil, List.length_drop, List.length_take]; omega)) only [evs, tys, lors, Nat.reduceAdd, Nat.reduceSub, Nat.reduceMul, Nat.reducePow, Nat.reduceBEq, Nat.reduceLT, Nat.reduceLeDiff, Nat.reduceEqDiff, Int.reduceLT, Int.reduceLE, Int.reduceEq, Int.reduceNe, Int.reduceToNat, Int.reduceAdd, Int.reduceSub, Int.reduceMul, Int.reducePow, Int.reduceDiv, Int.reduceMod, Int.reduceNeg, reduceCtorEq, codeKey, List.contains, List.elem, Ev.load, peek, pack, storeV, fieldAddr, field, cvB])
  rw [loopL_step' rfl]
  repeat' (first | (refine cond_by (F := res) (fun _ => ?_) (fun _ => ?_)) | (refine wayK_by (F := res) (fun _ hb_ => ?_) (fun _ hb_ => ?_) <;> simp only [hb_]) | (refine wayK_byN (F := res) (fun _ hb_ => ?_) (fun _ hb_ => ?_) <;> simp only [hb_]) | (refine wayD_by (F := res) (fun _ hb_ => ?_) (fun _ hb_ => ?_) <;> simp only [hb_]) | (refine wayD_byN (F := res) (fun _ hb_ => ?_) (fun _ hb_ => ?_) <;> simp only [hb_]) | (refine rdK_by (F := res) (fun _ => ?_) (fun _ => ?_)) | (refine effK_by (F := res) (fun _ => ?_) (fun _ => ?_)) | (refine effK_by2 (F := res) (fun _ => ?_) (fun _ => ?_)) | (refine rdD_by (F := res) (fun _ => ?_) (fun _ => ?_)) | (refine effD_by (F := res) (fun _ => ?_) (fun _ => ?_)) | (refine effD_by2 (F := res) (fun _ => ?_) (fun _ => ?_)) | simp -implicitDefEqProofs (disch := first | omega | (simp only [List.length_append, List.length_cons, List.length_nil, List.length_drop, List.length_take]; omega)) only [evs, tys, lors, Nat.reduceAdd, Nat.reduceSub, Nat.reduceMul, Nat.reducePow, Nat.reduceBEq, Nat.reduceLT, Nat.reduceLeDiff, Nat.reduceEqDiff, Int.reduceLT, Int.reduceLE, Int.reduceEq, Int.reduceNe, Int.reduceToNat, Int.reduceAdd, Int.reduceSub, Int.reduceMul, Int.reducePow, Int.reduceDiv, Int.reduceMod, Int.reduceNeg, reduceCtorEq, codeKey, List.contains, List.elem, Ev.load, peek, pack, storeV, fieldAddr, field, cvB])
  all_goals first | exact res_eq | trace_state
theorem encode_nils (H : Heap) : callV (CL lore) 8 [.nils] H = some (encV [], H) := by
  refine callV_ans (r := some _) ?_ lore_sh8 rfl H
  have w := written_nils
  rw [call_start lore_ext8 Tryd.func8 rfl lore_okf8 (Nat.le_of_ble_eq_true rfl)]
  have hb0 : (enc8 (bytesL [])) = [.int .u8 0, .int .u8 0] := rfl
  have h24 : callV (CL lore) 24 [.ptr 0 0] [⟨[.nils, .int .i64 0, .int .i64 0, .int .i64 0, .fl .f64 0, .int .u64 0, .int .u64 0, .bool false, .int .i64 0, .int .i64 0], 0, false, false⟩] = some (.sl [.int .u8 0, .int .u8 0] 1 true, [⟨[.nils, .int .i64 0, .int .i64 0, .int .i64 0, .fl .f64 0, .int .u64 0, .int .u64 0, .bool false, .int .i64 0, .int .i64 0], 0, false, false⟩]) := by
    refine callV_sh rfl ?_
    rw [call_start lore_ext24 Tryd.func24 rfl lore_okf24 (Nat.le_of_ble_eq_true rfl)]
    repeat' (first | (refine cond_by (F := res) (fun _ => ?_) (fun _ => ?_)) | (refine wayK_by (F := res) (fun _ hb_ => ?_) (fun _ hb_ => ?_) <;> simp only [hb_]) | (refine wayK_byN (F := res) (fun _ hb_ => ?_) (fun _ hb_ => ?_) <;> simp only [hb_]) | (refine wayD_by (F := res) (fun _ hb_ => ?_) (fun _ hb_ => ?_) <;> simp only [hb_]) | (refine wayD_byN (F := res) (fun _ hb_ => ?_) (fun _ hb_ => ?_) <;> simp only [hb_]) | (refine rdK_by (F := res) (fun _ => ?_) (fun _ => ?_)) | (refine effK_by (F := res) (fun _ => ?_) (fun _ => ?_)) | (refine effK_by2 (F := res) (fun _ => ?_) (fun _ => ?_)) | (refine rdD_by (F := res) (fun _ => ?_) (fun _ => ?_)) | (refine effD_by (F := res) (fun _ => ?_) (fun _ => ?_)) | (refine effD_by2 (F := res) (fun _ => ?_) (fun _ => ?_)) | simp -implicitDefEqProofs (disch := first | omega | (simp only [List.length_append, List.length_cons, List.length_nil, List.length_drop, List.length_take]; omega)) only [evs, tys, lors, Nat.reduceAdd, Nat.reduceSub, Nat.reduceMul, Nat.reducePow, Nat.reduceBEq, Nat.reduceLT, Nat.reduceLeDiff, Nat.reduceEqDiff, Int.reduceLT, Int.reduceLE, Int.reduceEq, Int.reduceNe, Int.reduceToNat, Int.reduceAdd, Int.reduceSub, Int.reduceMul, Int.reducePow, Int.reduceDiv, Int.reduceMod, Int.reduceNeg, reduceCtorEq, codeKey, List.contains, List.elem, Ev.load, peek, pack, storeV, fieldAddr, field, cvB, src_nils, app_sl0, shr_any])
    all_goals exact res_eq
  have h24' : callV (CL lore) 24 [.ptr 0 0] [NBX] = some (.sl [.int .u8 0, .int .u8 0] 1 true, [NBX]) := h24
  have ee : encV [] = .tup [.sl [.int .u8 0, .int .u8 0] 1 true, .int .i64 0, .int .i64 0] := rfl
  rw [ee]
  repeat' (first | (refine cond_by (F := ans) (fun _ => ?_) (fun _ => ?_)) | (refine wayK_by (F := ans) (fun _ hb_ => ?_) (fun _ hb_ => ?_) <;> simp only [hb_]) | (refine wayK_byN (F := ans) (fun _ hb_ => ?_) (fun _ hb_ => ?_) <;> simp only [hb_]) | (refine wayD_by (F := ans) (fun _ hb_ => ?_) (fun _ hb_ => ?_) <;> simp only [hb_]) | (refine wayD_byN (F := ans) (fun _ hb_ => ?_) (fun _ hb_ => ?_) <;> simp only [hb_]) | (refine rdK_by (F := ans) (fun _ => ?_) (fun _ => ?_)) | (refine effK_by (F := ans) (fun _ => ?_) (fun _ => ?_)) | (refine effK_by2 (F := ans) (fun _ => ?_) (fun _ => ?_)) | (refine rdD_by (F := ans) (fun _ => ?_) (fun _ => ?_)) | (refine effD_by (F := ans) (fun _ => ?_) (fun _ => ?_)) | (refine effD_by2 (F := ans) (fun _ => ?_) (fun _ => ?_)) | simp -implicitDefEqProofs (disch := first | omega | (simp only [List.length_append, List.length_cons, List.length_nil, List.length_drop, List.length_take]; omega)) only [evs, tys, lors, Nat.reduceAdd, Nat.reduceSub, Nat.reduceMul, Nat.reducePow, Nat.reduceBEq, Nat.reduceLT, Nat.reduceLeDiff, Nat.reduceEqDiff, Int.reduceLT, Int.reduceLE, Int.reduceEq, Int.reduceNe, Int.reduceToNat, Int.reduceAdd, Int.reduceSub, Int.reduceMul, Int.reducePow, Int.reduceDiv, Int.reduceMod, Int.reduceNeg, reduceCtorEq, codeKey, List.contains, List.elem, Ev.load, peek, pack, storeV, fieldAddr, field, cvB, w, h24'])
  all_goals first | rfl | trace_state
theorem callV_thaw {c : Calls_} {g : Nat} {vs ws : List V} {h h' : Heap} {v : V} (hs : c.shared g = false) (hf : fz2s h vs = some (ws, h')) (hp : fz2s [] ws = some (ws, [])) (hr : ∀ H, callV c g ws H = some (v, H)) : callV c g vs h = some (v, h') := by
  have h1 := hr []
  unfold callV at h1 ⊢
  rw [hs] at h1 ⊢
  simp only [hp, hf, Option.bind_some] at h1 ⊢
  generalize (c.run g ws []) = r at *
  cases r with
  | none => simp at h1
  | some r =>
    simp only [Option.bind_some] at h1 ⊢
    generalize give r.2 r.1 = q at *
    cases q with
    | none => simp at h1
    | some q =>
      simp only [Option.map_some, Option.some.injEq, Prod.mk.injEq, and_true] at h1 ⊢
      exact h1
/-- Encode of a row of points. -/
theorem encode_row (l : List (Int × Nat)) (hd : DotsOk l) (r : Nat) (H : Heap) (hr : r < H.length) (hH : H[r]? = some ⟨encD l, 2, true, false⟩) : callV (CL lore) 8 [.row r l.length] H = some (encV l, H.set r ⟨encD l, 2, true, true⟩) := by
  refine callV_thaw (ws := [.sl (encD l) 2 false]) rfl ?_ rfl (fun H => encode_cv l false hd H)
  simp [fz2s, fz2, fz1, hH, encD_len]
theorem slice2 {h : Heap} {b0 b1 : Int} {bs : List Int} {c : Bool} : sliceV Tryd.prog h 23 (.sl (enc8 (b0 :: b1 :: bs)) 1 c) (some (.int .i64 2)) none none = some (.sl (enc8 bs) 1 c, h) := by
  have e4 := enc8_len (b0 :: b1 :: bs)
  have e5 := enc8_len bs
  have ht : (enc8 (b0 :: b1 :: bs)).take (enc8 (b0 :: b1 :: bs)).length = enc8 (b0 :: b1 :: bs) := List.take_length
  simp only [sliceV, Tryd.underlying23, sz5, bound, if_true, Option.bind_some, ht, e4]
  have hll : (b0 :: b1 :: bs).length = bs.length + 2 := rfl
  rw [hll, if_pos (⟨by decide, by omega⟩ : (0 : Int) ≤ 2 ∧ (2 : Int) ≤ ((bs.length + 2 : Nat) : Int))]
  have h3 : (enc8 (b0 :: b1 :: bs)).take (bs.length + 2) = enc8 (b0 :: b1 :: bs) := by rw [← hll, ← e4, ht]
  simp only [Option.bind_some, h3]
  rfl
/-- The answer, of what was read. -/
abbrev decD (bs : List Int) (n : Nat) : List (Int × Nat) × DS := decL (unpack bs) n D0
/-- What Decode answers. -/
def decV : List Int → V
  | b0 :: b1 :: bs => if (decD bs (b0 * 256 + b1).toNat).2.short (unpack bs) = false ∧ fltL (decD bs (b0 * 256 + b1).toNat).1 = none ∧ bytesL (decD bs (b0 * 256 + b1).toNat).1 = b0 :: b1 :: bs then .tup [if (decD bs (b0 * 256 + b1).toNat).1 = [] then .nils else .sl (encD (decD bs (b0 * 256 + b1).toNat).1) 2 false, .int .i64 0] else .tup [.nils, .int .i64 191]
  | _ => .tup [.nils, .int .i64 191]
theorem decode_cv (b : List Int) (c : Bool) (hb : Us8 b) (hlen : b.length ≤ 200000000000000) (H : Heap) : callV (CL lore) 11 [.sl (enc8 b) 1 c] H = some (decV b, H) := by
  refine callV_ans (r := some _) ?_ lore_sh11 rfl H
  have e4 := enc8_len b
  match b, hb, hlen, e4 with
  | [], _, _, e4 =>
    rw [call_start lore_ext11 Tryd.func11 rfl lore_okf11 (Nat.le_of_ble_eq_true rfl)]
    repeat' (first | (refine cond_by (F := ans) (fun _ => ?_) (fun _ => ?_)) | (refine wayK_by (F := ans) (fun _ hb_ => ?_) (fun _ hb_ => ?_) <;> simp only [hb_]) | (refine wayK_byN (F := ans) (fun _ hb_ => ?_) (fun _ hb_ => ?_) <;> simp only [hb_]) | (refine wayD_by (F := ans) (fun _ hb_ => ?_) (fun _ hb_ => ?_) <;> simp only [hb_]) | (refine wayD_byN (F := ans) (fun _ hb_ => ?_) (fun _ hb_ => ?_) <;> simp only [hb_]) | (refine rdK_by (F := ans) (fun _ => ?_) (fun _ => ?_)) | (refine effK_by (F := ans) (fun _ => ?_) (fun _ => ?_)) | (refine effK_by2 (F := ans) (fun _ => ?_) (fun _ => ?_)) | (refine rdD_by (F := ans) (fun _ => ?_) (fun _ => ?_)) | (refine effD_by (F := ans) (fun _ => ?_) (fun _ => ?_)) | (refine effD_by2 (F := ans) (fun _ => ?_) (fun _ => ?_)) | simp -implicitDefEqProofs (disch := first | omega | (simp only [List.length_append, List.length_cons, List.length_nil, List.length_drop, List.length_take]; omega)) only [evs, tys, lors, Nat.reduceAdd, Nat.reduceSub, Nat.reduceMul, Nat.reducePow, Nat.reduceBEq, Nat.reduceLT, Nat.reduceLeDiff, Nat.reduceEqDiff, Int.reduceLT, Int.reduceLE, Int.reduceEq, Int.reduceNe, Int.reduceToNat, Int.reduceAdd, Int.reduceSub, Int.reduceMul, Int.reducePow, Int.reduceDiv, Int.reduceMod, Int.reduceNeg, reduceCtorEq, codeKey, List.contains, List.elem, Ev.load, peek, pack, storeV, fieldAddr, field, cvB, e4, List.length_nil])
    all_goals rfl
  | [x], _, _, e4 =>
    rw [call_start lore_ext11 Tryd.func11 rfl lore_okf11 (Nat.le_of_ble_eq_true rfl)]
    repeat' (first | (refine cond_by (F := ans) (fun _ => ?_) (fun _ => ?_)) | (refine wayK_by (F := ans) (fun _ hb_ => ?_) (fun _ hb_ => ?_) <;> simp only [hb_]) | (refine wayK_byN (F := ans) (fun _ hb_ => ?_) (fun _ hb_ => ?_) <;> simp only [hb_]) | (refine wayD_by (F := ans) (fun _ hb_ => ?_) (fun _ hb_ => ?_) <;> simp only [hb_]) | (refine wayD_byN (F := ans) (fun _ hb_ => ?_) (fun _ hb_ => ?_) <;> simp only [hb_]) | (refine rdK_by (F := ans) (fun _ => ?_) (fun _ => ?_)) | (refine effK_by (F := ans) (fun _ => ?_) (fun _ => ?_)) | (refine effK_by2 (F := ans) (fun _ => ?_) (fun _ => ?_)) | (refine rdD_by (F := ans) (fun _ => ?_) (fun _ => ?_)) | (refine effD_by (F := ans) (fun _ => ?_) (fun _ => ?_)) | (refine effD_by2 (F := ans) (fun _ => ?_) (fun _ => ?_)) | simp -implicitDefEqProofs (disch := first | omega | (simp only [List.length_append, List.length_cons, List.length_nil, List.length_drop, List.length_take]; omega)) only [evs, tys, lors, Nat.reduceAdd, Nat.reduceSub, Nat.reduceMul, Nat.reducePow, Nat.reduceBEq, Nat.reduceLT, Nat.reduceLeDiff, Nat.reduceEqDiff, Int.reduceLT, Int.reduceLE, Int.reduceEq, Int.reduceNe, Int.reduceToNat, Int.reduceAdd, Int.reduceSub, Int.reduceMul, Int.reducePow, Int.reduceDiv, Int.reduceMod, Int.reduceNeg, reduceCtorEq, codeKey, List.contains, List.elem, Ev.load, peek, pack, storeV, fieldAddr, field, cvB, e4, List.length_cons, List.length_nil])
    all_goals rfl
  | b0 :: b1 :: bs, hb, hlen, e4 =>
    have h0 := hb b0 (by simp)
    have h1 := hb b1 (by simp)
    have hbs : Us8 bs := fun x hx => hb x (by simp [hx])
    have hor := or_16 h0 h1
    have hnn : (b0 * 256 + b1).toNat ≤ 65535 := by omega
    generalize hN : (b0 * 256 + b1).toNat = N at *
    have hlt : ¬ ((b0 :: b1 :: bs).length : Int) < 2 := by simp; omega
    have g0 : (enc8 (b0 :: b1 :: bs))[0]? = some (.int .u8 b0) := rfl
    have g1 : (enc8 (b0 :: b1 :: bs))[1]? = some (.int .u8 b1) := rfl
    obtain ⟨a, ha⟩ : ∃ a, loopIn Tryd.prog 11 8 = some a := ⟨_, rfl⟩
    have hdl := decL_ok (unpack_01 bs) N D0 (D0_ok _)
    have hll : (b0 :: b1 :: bs).length = bs.length + 2 := rfl
    have hlb : bs.length ≤ 200000000000000 := by omega
    obtain ⟨H', ov', q1, q2, q3⟩ := loopD bs c c (b0 :: b1 :: bs) hbs hlb N hnn a ha N D0 [] .nils [⟨[.nils], 0, false, false⟩] rfl (by simp) (by simp) (Or.inl ⟨rfl, rfl⟩) (fun h => absurd rfl h) (D0_ok _)
    have hD : decV (b0 :: b1 :: bs) = if (decL (unpack bs) N D0).2.short (unpack bs) = false ∧ fltL (decL (unpack bs) N D0).1 = none ∧ bytesL (decL (unpack bs) N D0).1 = b0 :: b1 :: bs then .tup [if (decL (unpack bs) N D0).1 = [] then .nils else .sl (encD (decL (unpack bs) N D0).1) 2 false, .int .i64 0] else .tup [.nils, .int .i64 191] := by
      rw [← hN]; rfl
    rw [hD]
    have hs0 : D0.short (unpack bs) = false := by
      unfold DS.short D0
      simp
    have hRB : RB [⟨[.nils], 0, false, false⟩] 0 bs c (D0.p : Nat) false D0.fr = [⟨[.sl (enc8 bs) 1 c, .int .i64 0, .bool false, .bool false, .int .i64 0, .int .i64 0], 0, false, false⟩] := by
      unfold RB; rfl
    simp only [List.nil_append] at q2 q3
    have q3 := fun (K : Kont) => (show loopL lore 11 a (Sl 119 .wild [(0, .sl (enc8 (b0 :: b1 :: bs)) 1 c), (4, .int .i64 (N : Nat)), (5, .ptr 0 0), (6, .nils), (7, .int .u64 0), (8, .int .u64 0), (9, .int .i64 0)]) [⟨[.sl (enc8 bs) 1 c, .int .i64 0, .bool false, .bool false, .int .i64 0, .int .i64 0], 0, false, false⟩] K = _ from by
      refine Eq.trans ?_ (of_res (q3 K))
      rw [hs0, hRB]
      try rfl)
    have us1 := bytesL_us8 (l := (decL (unpack bs) N D0).1) (by omega)
    generalize (decL (unpack bs) N D0).1 = out at *
    generalize (decL (unpack bs) N D0).2 = e at *
    have hEq := fun (x y : Bool) (Hx : Heap) => equal_cv (bytesL out) (b0 :: b1 :: bs) us1 hb x y Hx
    have hlt2 : ¬ ((bs.length + 2 : Nat) : Int) < 2 := by omega
    rw [call_start lore_ext11 Tryd.func11 rfl lore_okf11 (Nat.le_of_ble_eq_true rfl)]
    repeat' (first | (refine cond_by (F := ans) (fun _ => ?_) (fun _ => ?_)) | (refine wayK_by (F := ans) (fun _ hb_ => ?_) (fun _ hb_ => ?_) <;> simp only [hb_]) | (refine wayK_byN (F := ans) (fun _ hb_ => ?_) (fun _ hb_ => ?_) <;> simp only [hb_]) | (refine wayD_by (F := ans) (fun _ hb_ => ?_) (fun _ hb_ => ?_) <;> simp only [hb_]) | (refine wayD_byN (F := ans) (fun _ hb_ => ?_) (fun _ hb_ => ?_) <;> simp only [hb_]) | (refine rdK_by (F := ans) (fun _ => ?_) (fun _ => ?_)) | (refine effK_by (F := ans) (fun _ => ?_) (fun _ => ?_)) | (refine effK_by2 (F := ans) (fun _ => ?_) (fun _ => ?_)) | (refine rdD_by (F := ans) (fun _ => ?_) (fun _ => ?_)) | (refine effD_by (F := ans) (fun _ => ?_) (fun _ => ?_)) | (refine effD_by2 (F := ans) (fun _ => ?_) (fun _ => ?_)) | simp -implicitDefEqProofs (disch := first | omega | (simp only [List.length_append, List.length_cons, List.length_nil, List.length_drop, List.length_take]; omega)) only [evs, tys, lors, Nat.reduceAdd, Nat.reduceSub, Nat.reduceMul, Nat.reducePow, Nat.reduceBEq, Nat.reduceLT, Nat.reduceLeDiff, Nat.reduceEqDiff, Int.reduceLT, Int.reduceLE, Int.reduceEq, Int.reduceNe, Int.reduceToNat, Int.reduceAdd, Int.reduceSub, Int.reduceMul, Int.reducePow, Int.reduceDiv, Int.reduceMod, Int.reduceNeg, reduceCtorEq, codeKey, List.contains, List.elem, Ev.load, peek, pack, storeV, fieldAddr, field, cvB, e4, hll, hlt2, g0, g1, hor, slice2, decide_false, shl_i64])
    obtain rfl : a = _ := (Option.some.inj ((show loopIn Tryd.prog 11 8 = some _ from rfl).symm.trans ha)).symm
    rw [q3, res_eq]
    have hoe : encV out = if 65535 < out.length then .tup [.nils, .int .i64 3, .int .i64 65535] else match fltL out with
      | some j => .tup [.nils, .int .i64 190, .int .i64 (j : Nat)]
      | none => .tup [.sl (enc8 (bytesL out)) 1 out.isEmpty, .int .i64 0, .int .i64 0] := rfl
    rw [if_neg (by omega)] at hoe
    rcases q2 with ⟨rfl, rfl⟩ | ⟨hne, r, rfl, hr0, hr, hH⟩
    · have hen := encode_nils (RB H' 0 bs c (e.p : Nat) (e.short (unpack bs)) e.fr)
      have hen2 : encV [] = .tup [.sl (enc8 (bytesL [])) 1 true, .int .i64 0, .int .i64 0] := rfl
      rw [hen2] at hen
      cases hsh : e.short (unpack bs)
      · rw [hsh] at hen
        by_cases hb2 : bytesL [] = b0 :: b1 :: bs
        · have hEq := fun (x y : Bool) (Hx : Heap) => (hEq x y Hx).trans (by rw [decide_eq_true hb2])
          rw [if_pos ⟨rfl, rfl, hb2⟩, if_pos rfl]
          repeat' (first | (refine cond_by (F := ans) (fun _ => ?_) (fun _ => ?_)) | (refine wayK_by (F := ans) (fun _ hb_ => ?_) (fun _ hb_ => ?_) <;> simp only [hb_]) | (refine wayK_byN (F := ans) (fun _ hb_ => ?_) (fun _ hb_ => ?_) <;> simp only [hb_]) | (refine wayD_by (F := ans) (fun _ hb_ => ?_) (fun _ hb_ => ?_) <;> simp only [hb_]) | (refine wayD_byN (F := ans) (fun _ hb_ => ?_) (fun _ hb_ => ?_) <;> simp only [hb_]) | (refine rdK_by (F := ans) (fun _ => ?_) (fun _ => ?_)) | (refine effK_by (F := ans) (fun _ => ?_) (fun _ => ?_)) | (refine effK_by2 (F := ans) (fun _ => ?_) (fun _ => ?_)) | (refine rdD_by (F := ans) (fun _ => ?_) (fun _ => ?_)) | (refine effD_by (F := ans) (fun _ => ?_) (fun _ => ?_)) | (refine effD_by2 (F := ans) (fun _ => ?_) (fun _ => ?_)) | simp -implicitDefEqProofs (disch := first | omega | (simp only [List.length_append, List.length_cons, List.length_nil, List.length_drop, List.length_take]; omega)) only [evs, tys, lors, Nat.reduceAdd, Nat.reduceSub, Nat.reduceMul, Nat.reducePow, Nat.reduceBEq, Nat.reduceLT, Nat.reduceLeDiff, Nat.reduceEqDiff, Int.reduceLT, Int.reduceLE, Int.reduceEq, Int.reduceNe, Int.reduceToNat, Int.reduceAdd, Int.reduceSub, Int.reduceMul, Int.reducePow, Int.reduceDiv, Int.reduceMod, Int.reduceNeg, reduceCtorEq, codeKey, List.contains, List.elem, Ev.load, peek, pack, storeV, fieldAddr, field, cvB, hen, rb_h q1, hEq])
          all_goals trace_state
        · have hEq := fun (x y : Bool) (Hx : Heap) => (hEq x y Hx).trans (by rw [decide_eq_false hb2])
          rw [if_neg (fun h => hb2 h.2.2)]
          repeat' (first | (refine cond_by (F := ans) (fun _ => ?_) (fun _ => ?_)) | (refine wayK_by (F := ans) (fun _ hb_ => ?_) (fun _ hb_ => ?_) <;> simp only [hb_]) | (refine wayK_byN (F := ans) (fun _ hb_ => ?_) (fun _ hb_ => ?_) <;> simp only [hb_]) | (refine wayD_by (F := ans) (fun _ hb_ => ?_) (fun _ hb_ => ?_) <;> simp only [hb_]) | (refine wayD_byN (F := ans) (fun _ hb_ => ?_) (fun _ hb_ => ?_) <;> simp only [hb_]) | (refine rdK_by (F := ans) (fun _ => ?_) (fun _ => ?_)) | (refine effK_by (F := ans) (fun _ => ?_) (fun _ => ?_)) | (refine effK_by2 (F := ans) (fun _ => ?_) (fun _ => ?_)) | (refine rdD_by (F := ans) (fun _ => ?_) (fun _ => ?_)) | (refine effD_by (F := ans) (fun _ => ?_) (fun _ => ?_)) | (refine effD_by2 (F := ans) (fun _ => ?_) (fun _ => ?_)) | simp -implicitDefEqProofs (disch := first | omega | (simp only [List.length_append, List.length_cons, List.length_nil, List.length_drop, List.length_take]; omega)) only [evs, tys, lors, Nat.reduceAdd, Nat.reduceSub, Nat.reduceMul, Nat.reducePow, Nat.reduceBEq, Nat.reduceLT, Nat.reduceLeDiff, Nat.reduceEqDiff, Int.reduceLT, Int.reduceLE, Int.reduceEq, Int.reduceNe, Int.reduceToNat, Int.reduceAdd, Int.reduceSub, Int.reduceMul, Int.reducePow, Int.reduceDiv, Int.reduceMod, Int.reduceNeg, reduceCtorEq, codeKey, List.contains, List.elem, Ev.load, peek, pack, storeV, fieldAddr, field, cvB, hen, rb_h q1, hEq])
          all_goals trace_state
      · rw [hsh] at hen
        rw [if_neg (fun h => by cases h.1)]
        repeat' (first | (refine cond_by (F := ans) (fun _ => ?_) (fun _ => ?_)) | (refine wayK_by (F := ans) (fun _ hb_ => ?_) (fun _ hb_ => ?_) <;> simp only [hb_]) | (refine wayK_byN (F := ans) (fun _ hb_ => ?_) (fun _ hb_ => ?_) <;> simp only [hb_]) | (refine wayD_by (F := ans) (fun _ hb_ => ?_) (fun _ hb_ => ?_) <;> simp only [hb_]) | (refine wayD_byN (F := ans) (fun _ hb_ => ?_) (fun _ hb_ => ?_) <;> simp only [hb_]) | (refine rdK_by (F := ans) (fun _ => ?_) (fun _ => ?_)) | (refine effK_by (F := ans) (fun _ => ?_) (fun _ => ?_)) | (refine effK_by2 (F := ans) (fun _ => ?_) (fun _ => ?_)) | (refine rdD_by (F := ans) (fun _ => ?_) (fun _ => ?_)) | (refine effD_by (F := ans) (fun _ => ?_) (fun _ => ?_)) | (refine effD_by2 (F := ans) (fun _ => ?_) (fun _ => ?_)) | simp -implicitDefEqProofs (disch := first | omega | (simp only [List.length_append, List.length_cons, List.length_nil, List.length_drop, List.length_take]; omega)) only [evs, tys, lors, Nat.reduceAdd, Nat.reduceSub, Nat.reduceMul, Nat.reducePow, Nat.reduceBEq, Nat.reduceLT, Nat.reduceLeDiff, Nat.reduceEqDiff, Int.reduceLT, Int.reduceLE, Int.reduceEq, Int.reduceNe, Int.reduceToNat, Int.reduceAdd, Int.reduceSub, Int.reduceMul, Int.reducePow, Int.reduceDiv, Int.reduceMod, Int.reduceNeg, reduceCtorEq, codeKey, List.contains, List.elem, Ev.load, peek, pack, storeV, fieldAddr, field, cvB, hen, rb_h q1])
        all_goals trace_state
    · have hr0' : ¬ r = 0 := by omega
      have hen := encode_row out hdl.1 r (RB H' 0 bs c (e.p : Nat) (e.short (unpack bs)) e.fr) (by unfold RB; simpa using hr) (by rw [rb_get hr0']; exact hH)
      rw [rb_set hr0', hoe] at hen
      have q1' : ∀ y, 0 < (H'.set r y).length := fun y => by simpa using q1
      cases hsh : e.short (unpack bs)
      · rw [hsh] at hen
        cases hf : fltL out with
        | some j =>
          rw [hf] at hen
          rw [if_neg (fun h => by cases h.2.1)]
          repeat' (first | (refine cond_by (F := ans) (fun _ => ?_) (fun _ => ?_)) | (refine wayK_by (F := ans) (fun _ hb_ => ?_) (fun _ hb_ => ?_) <;> simp only [hb_]) | (refine wayK_byN (F := ans) (fun _ hb_ => ?_) (fun _ hb_ => ?_) <;> simp only [hb_]) | (refine wayD_by (F := ans) (fun _ hb_ => ?_) (fun _ hb_ => ?_) <;> simp only [hb_]) | (refine wayD_byN (F := ans) (fun _ hb_ => ?_) (fun _ hb_ => ?_) <;> simp only [hb_]) | (refine rdK_by (F := ans) (fun _ => ?_) (fun _ => ?_)) | (refine effK_by (F := ans) (fun _ => ?_) (fun _ => ?_)) | (refine effK_by2 (F := ans) (fun _ => ?_) (fun _ => ?_)) | (refine rdD_by (F := ans) (fun _ => ?_) (fun _ => ?_)) | (refine effD_by (F := ans) (fun _ => ?_) (fun _ => ?_)) | (refine effD_by2 (F := ans) (fun _ => ?_) (fun _ => ?_)) | simp -implicitDefEqProofs (disch := first | omega | (simp only [List.length_append, List.length_cons, List.length_nil, List.length_drop, List.length_take]; omega)) only [evs, tys, lors, Nat.reduceAdd, Nat.reduceSub, Nat.reduceMul, Nat.reducePow, Nat.reduceBEq, Nat.reduceLT, Nat.reduceLeDiff, Nat.reduceEqDiff, Int.reduceLT, Int.reduceLE, Int.reduceEq, Int.reduceNe, Int.reduceToNat, Int.reduceAdd, Int.reduceSub, Int.reduceMul, Int.reducePow, Int.reduceDiv, Int.reduceMod, Int.reduceNeg, reduceCtorEq, codeKey, List.contains, List.elem, Ev.load, peek, pack, storeV, fieldAddr, field, cvB, hen, rb_h (q1' _)])
          all_goals trace_state
        | none =>
          rw [hf] at hen
          by_cases hb2 : bytesL out = b0 :: b1 :: bs
          · have hEq := fun (x y : Bool) (Hx : Heap) => (hEq x y Hx).trans (by rw [decide_eq_true hb2])
            rw [if_pos ⟨rfl, rfl, hb2⟩, if_neg hne]
            repeat' (first | (refine cond_by (F := ans) (fun _ => ?_) (fun _ => ?_)) | (refine wayK_by (F := ans) (fun _ hb_ => ?_) (fun _ hb_ => ?_) <;> simp only [hb_]) | (refine wayK_byN (F := ans) (fun _ hb_ => ?_) (fun _ hb_ => ?_) <;> simp only [hb_]) | (refine wayD_by (F := ans) (fun _ hb_ => ?_) (fun _ hb_ => ?_) <;> simp only [hb_]) | (refine wayD_byN (F := ans) (fun _ hb_ => ?_) (fun _ hb_ => ?_) <;> simp only [hb_]) | (refine rdK_by (F := ans) (fun _ => ?_) (fun _ => ?_)) | (refine effK_by (F := ans) (fun _ => ?_) (fun _ => ?_)) | (refine effK_by2 (F := ans) (fun _ => ?_) (fun _ => ?_)) | (refine rdD_by (F := ans) (fun _ => ?_) (fun _ => ?_)) | (refine effD_by (F := ans) (fun _ => ?_) (fun _ => ?_)) | (refine effD_by2 (F := ans) (fun _ => ?_) (fun _ => ?_)) | simp -implicitDefEqProofs (disch := first | omega | (simp only [List.length_append, List.length_cons, List.length_nil, List.length_drop, List.length_take]; omega)) only [evs, tys, lors, Nat.reduceAdd, Nat.reduceSub, Nat.reduceMul, Nat.reducePow, Nat.reduceBEq, Nat.reduceLT, Nat.reduceLeDiff, Nat.reduceEqDiff, Int.reduceLT, Int.reduceLE, Int.reduceEq, Int.reduceNe, Int.reduceToNat, Int.reduceAdd, Int.reduceSub, Int.reduceMul, Int.reducePow, Int.reduceDiv, Int.reduceMod, Int.reduceNeg, reduceCtorEq, codeKey, List.contains, List.elem, Ev.load, peek, pack, storeV, fieldAddr, field, cvB, hen, rb_h (q1' _), hEq])
            have hgr : ∀ p' s' f', (RB (H'.set r ⟨encD out, 2, true, true⟩) 0 bs c p' s' f')[r]? = some ⟨encD out, 2, true, true⟩ := fun _ _ _ => by rw [rb_get hr0', List.getElem?_set_self hr]
            simp [giveP, give, fz2s, fz2, fz1, hgr, encD_len, V.plain]
          · have hEq := fun (x y : Bool) (Hx : Heap) => (hEq x y Hx).trans (by rw [decide_eq_false hb2])
            rw [if_neg (fun h => hb2 h.2.2)]
            repeat' (first | (refine cond_by (F := ans) (fun _ => ?_) (fun _ => ?_)) | (refine wayK_by (F := ans) (fun _ hb_ => ?_) (fun _ hb_ => ?_) <;> simp only [hb_]) | (refine wayK_byN (F := ans) (fun _ hb_ => ?_) (fun _ hb_ => ?_) <;> simp only [hb_]) | (refine wayD_by (F := ans) (fun _ hb_ => ?_) (fun _ hb_ => ?_) <;> simp only [hb_]) | (refine wayD_byN (F := ans) (fun _ hb_ => ?_) (fun _ hb_ => ?_) <;> simp only [hb_]) | (refine rdK_by (F := ans) (fun _ => ?_) (fun _ => ?_)) | (refine effK_by (F := ans) (fun _ => ?_) (fun _ => ?_)) | (refine effK_by2 (F := ans) (fun _ => ?_) (fun _ => ?_)) | (refine rdD_by (F := ans) (fun _ => ?_) (fun _ => ?_)) | (refine effD_by (F := ans) (fun _ => ?_) (fun _ => ?_)) | (refine effD_by2 (F := ans) (fun _ => ?_) (fun _ => ?_)) | simp -implicitDefEqProofs (disch := first | omega | (simp only [List.length_append, List.length_cons, List.length_nil, List.length_drop, List.length_take]; omega)) only [evs, tys, lors, Nat.reduceAdd, Nat.reduceSub, Nat.reduceMul, Nat.reducePow, Nat.reduceBEq, Nat.reduceLT, Nat.reduceLeDiff, Nat.reduceEqDiff, Int.reduceLT, Int.reduceLE, Int.reduceEq, Int.reduceNe, Int.reduceToNat, Int.reduceAdd, Int.reduceSub, Int.reduceMul, Int.reducePow, Int.reduceDiv, Int.reduceMod, Int.reduceNeg, reduceCtorEq, codeKey, List.contains, List.elem, Ev.load, peek, pack, storeV, fieldAddr, field, cvB, hen, rb_h (q1' _), hEq])
            all_goals trace_state
      · rw [hsh] at hen
        rw [if_neg (fun h => by cases h.1)]
        cases hf : fltL out with
        | some j =>
          rw [hf] at hen
          repeat' (first | (refine cond_by (F := ans) (fun _ => ?_) (fun _ => ?_)) | (refine wayK_by (F := ans) (fun _ hb_ => ?_) (fun _ hb_ => ?_) <;> simp only [hb_]) | (refine wayK_byN (F := ans) (fun _ hb_ => ?_) (fun _ hb_ => ?_) <;> simp only [hb_]) | (refine wayD_by (F := ans) (fun _ hb_ => ?_) (fun _ hb_ => ?_) <;> simp only [hb_]) | (refine wayD_byN (F := ans) (fun _ hb_ => ?_) (fun _ hb_ => ?_) <;> simp only [hb_]) | (refine rdK_by (F := ans) (fun _ => ?_) (fun _ => ?_)) | (refine effK_by (F := ans) (fun _ => ?_) (fun _ => ?_)) | (refine effK_by2 (F := ans) (fun _ => ?_) (fun _ => ?_)) | (refine rdD_by (F := ans) (fun _ => ?_) (fun _ => ?_)) | (refine effD_by (F := ans) (fun _ => ?_) (fun _ => ?_)) | (refine effD_by2 (F := ans) (fun _ => ?_) (fun _ => ?_)) | simp -implicitDefEqProofs (disch := first | omega | (simp only [List.length_append, List.length_cons, List.length_nil, List.length_drop, List.length_take]; omega)) only [evs, tys, lors, Nat.reduceAdd, Nat.reduceSub, Nat.reduceMul, Nat.reducePow, Nat.reduceBEq, Nat.reduceLT, Nat.reduceLeDiff, Nat.reduceEqDiff, Int.reduceLT, Int.reduceLE, Int.reduceEq, Int.reduceNe, Int.reduceToNat, Int.reduceAdd, Int.reduceSub, Int.reduceMul, Int.reducePow, Int.reduceDiv, Int.reduceMod, Int.reduceNeg, reduceCtorEq, codeKey, List.contains, List.elem, Ev.load, peek, pack, storeV, fieldAddr, field, cvB, hen, rb_h (q1' _)])
          all_goals trace_state
        | none =>
          rw [hf] at hen
          repeat' (first | (refine cond_by (F := ans) (fun _ => ?_) (fun _ => ?_)) | (refine wayK_by (F := ans) (fun _ hb_ => ?_) (fun _ hb_ => ?_) <;> simp only [hb_]) | (refine wayK_byN (F := ans) (fun _ hb_ => ?_) (fun _ hb_ => ?_) <;> simp only [hb_]) | (refine wayD_by (F := ans) (fun _ hb_ => ?_) (fun _ hb_ => ?_) <;> simp only [hb_]) | (refine wayD_byN (F := ans) (fun _ hb_ => ?_) (fun _ hb_ => ?_) <;> simp only [hb_]) | (refine rdK_by (F := ans) (fun _ => ?_) (fun _ => ?_)) | (refine effK_by (F := ans) (fun _ => ?_) (fun _ => ?_)) | (refine effK_by2 (F := ans) (fun _ => ?_) (fun _ => ?_)) | (refine rdD_by (F := ans) (fun _ => ?_) (fun _ => ?_)) | (refine effD_by (F := ans) (fun _ => ?_) (fun _ => ?_)) | (refine effD_by2 (F := ans) (fun _ => ?_) (fun _ => ?_)) | simp -implicitDefEqProofs (disch := first | omega | (simp only [List.length_append, List.length_cons, List.length_nil, List.length_drop, List.length_take]; omega)) only [evs, tys, lors, Nat.reduceAdd, Nat.reduceSub, Nat.reduceMul, Nat.reducePow, Nat.reduceBEq, Nat.reduceLT, Nat.reduceLeDiff, Nat.reduceEqDiff, Int.reduceLT, Int.reduceLE, Int.reduceEq, Int.reduceNe, Int.reduceToNat, Int.reduceAdd, Int.reduceSub, Int.reduceMul, Int.reducePow, Int.reduceDiv, Int.reduceMod, Int.reduceNeg, reduceCtorEq, codeKey, List.contains, List.elem, Ev.load, peek, pack, storeV, fieldAddr, field, cvB, hen, rb_h (q1' _)])
          all_goals trace_state
end Go.Proofs.YtmjdcoacmmmhnaaDoor
