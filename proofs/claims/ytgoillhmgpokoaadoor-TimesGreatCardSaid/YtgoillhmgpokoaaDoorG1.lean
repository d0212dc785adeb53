/-
The functions of times that read a text, as plain Lean: digits, value.
-/
import Derived.Test.YtgoillhmgpokoaaDoorLore
namespace Go.Proofs.YtgoillhmgpokoaaDoor
open Go Ev
set_option linter.all false
set_option maxHeartbeats 4000000
set_option maxRecDepth 5000
attribute [local irreducible] codeL condL loopL callL callV evOps evDraw rdK effK wayK oneK wayD oneD rdD effD chks chkB res

theorem cast_succ (i : Nat) : ((i : Int) + 1) = ((i + 1 : Nat) : Int) := rfl
theorem drop_getD {l : List UInt8} {i : Nat} (h : i < l.length) : l.drop i = l.getD i 0 :: l.drop (i + 1) := by
  rw [List.drop_eq_getElem_cons h, List.getD_eq_getElem?_getD, List.getElem?_eq_getElem h]; rfl
def isDig (b : UInt8) : Prop := 48 ≤ b.toNat ∧ b.toNat ≤ 57
instance (b : UInt8) : Decidable (isDig b) := by unfold isDig; infer_instance
def digL : List UInt8 → Nat
  | [] => 0
  | b :: r => if isDig b then digL r + 1 else 0
theorem digL_le : ∀ l, digL l ≤ l.length
  | [] => Nat.le_refl _
  | b :: r => by
    have := digL_le r
    simp only [digL, List.length_cons]
    split <;> omega

theorem loop38 (l : List UInt8) (hl : l.length < 4611686018427387904) (K : Kont) (H : Heap) (a : Code) (ha : loopIn Tryd.prog 38 2 = some a) : ∀ (n i : Nat) (x : Int), l.length - i = n → i ≤ l.length → x = i →
    loopL lore 38 a (Sl 30 .wild [(0, .str (bs l)), (3, .int .i64 x)]) H K = K (.exit 0) (Sl 30 .wild [(0, .str (bs l)), (3, .int .i64 ((i + digL (l.drop i) : Nat) : Int))]) H := by
  have hk := loop_key ha
  simp only [loopIn, Tryd.func38, Tryd.f38, loopAt, Option.bind_some, codeKey, if_true, Option.some.injEq, Nat.reduceEqDiff, if_false] at ha
  intro n
  induction n using Nat.strongRecOn with
  | _ n ih =>
  intro i x hn hi hx
  subst hx
  rw [loopL_step' ha]
  refine of_res ?_
  repeat' (first | (refine cond_by (F := res) (fun _ => ?_) (fun _ => ?_)) | (refine wayK_by (F := res) (fun _ hb => ?_) (fun _ hb => ?_) <;> simp only [hb]) | (refine wayK_byN (F := res) (fun _ hb => ?_) (fun _ hb => ?_) <;> simp only [hb]) | (refine wayD_by (F := res) (fun _ hb => ?_) (fun _ hb => ?_) <;> simp only [hb]) | (refine wayD_byN (F := res) (fun _ hb => ?_) (fun _ hb => ?_) <;> simp only [hb]) | (refine rdK_by (F := res) (fun _ => ?_) (fun _ => ?_)) | (refine effK_by (F := res) (fun _ => ?_) (fun _ => ?_)) | (refine effK_by2 (F := res) (fun _ => ?_) (fun _ => ?_)) | (refine rdD_by (F := res) (fun _ => ?_) (fun _ => ?_)) | (refine effD_by (F := res) (fun _ => ?_) (fun _ => ?_)) | (refine effD_by2 (F := res) (fun _ => ?_) (fun _ => ?_)) | simp -implicitDefEqProofs (disch := first | omega | (simp only [List.length_append, List.length_cons, List.length_nil, List.length_drop, List.length_take]; omega)) only [evs, tys, lors, Nat.reduceAdd, Nat.reduceSub, Nat.reduceMul, Nat.reducePow, Nat.reduceBEq, Nat.reduceLT, Nat.reduceLeDiff, Nat.reduceEqDiff, Int.reduceLT, Int.reduceLE, Int.reduceEq, Int.reduceNe, Int.reduceToNat, reduceCtorEq, codeKey, List.contains, List.elem, Ev.load, peek, pack, storeV, fieldAddr, field, cvB, hk, cast_succ])
  all_goals rw [res_eq]
  · have h : i < l.length := by omega
    rw [ih _ (by omega) (i + 1) _ rfl (by omega) rfl, drop_getD h]
    simp only [digL]
    rw [if_pos (by unfold isDig; omega), show i + 1 + digL (l.drop (i + 1)) = i + (digL (l.drop (i + 1)) + 1) by omega]
  · have h : i < l.length := by omega
    rw [drop_getD h]
    simp only [digL]
    rw [if_neg (by unfold isDig; omega)]; rfl
  · have h : i < l.length := by omega
    rw [drop_getD h]
    simp only [digL]
    rw [if_neg (by unfold isDig; omega)]; rfl
  · rw [List.drop_eq_nil_of_le (by omega)]; rfl

def digitsL (l : List UInt8) : Nat := if 1 < digL l ∧ (l.getD 0 0).toNat = 48 then 1 else digL l
theorem digitsL_le (l : List UInt8) : digitsL l ≤ l.length := by
  have := digL_le l
  unfold digitsL
  split <;> omega

theorem digits_cv (l : List UInt8) (hl : l.length < 4611686018427387904) (H : Heap) : callV (CL lore) 38 [.str (bs l)] H = some (.int .i64 (digitsL l : Nat), H) := by
  refine callV_ans (r := some _) ?_ (lore_shared 38) rfl H
  rw [call_start lore_ext38 Tryd.func38 rfl lore_okf38 (Nat.le_of_ble_eq_true rfl)]
  have h1 := fun K H a ha => loop38 l hl K H a ha l.length 0 0 (by omega) (by omega) rfl
  simp only [List.drop_zero, Nat.zero_add] at h1
  have hd := digL_le l
  simp -implicitDefEqProofs (disch := first | omega | (simp only [List.length_append, List.length_cons, List.length_nil, List.length_drop, List.length_take]; omega)) only [evs, tys, lors, Nat.reduceAdd, Nat.reduceSub, Nat.reduceMul, Nat.reducePow, Nat.reduceBEq, Nat.reduceLT, Nat.reduceLeDiff, Nat.reduceEqDiff, Int.reduceLT, Int.reduceLE, Int.reduceEq, Int.reduceNe, Int.reduceToNat, reduceCtorEq, codeKey, List.contains, List.elem, Ev.load, peek, pack, storeV, fieldAddr, field, cvB]
  rw [h1 _ _ _ (by rfl)]
  repeat' (first | (refine cond_by (F := ans) (fun _ => ?_) (fun _ => ?_)) | (refine wayK_by (F := ans) (fun _ hb => ?_) (fun _ hb => ?_) <;> simp only [hb]) | (refine wayK_byN (F := ans) (fun _ hb => ?_) (fun _ hb => ?_) <;> simp only [hb]) | (refine wayD_by (F := ans) (fun _ hb => ?_) (fun _ hb => ?_) <;> simp only [hb]) | (refine wayD_byN (F := ans) (fun _ hb => ?_) (fun _ hb => ?_) <;> simp only [hb]) | (refine rdK_by (F := ans) (fun _ => ?_) (fun _ => ?_)) | (refine effK_by (F := ans) (fun _ => ?_) (fun _ => ?_)) | (refine effK_by2 (F := ans) (fun _ => ?_) (fun _ => ?_)) | (refine rdD_by (F := ans) (fun _ => ?_) (fun _ => ?_)) | (refine effD_by (F := ans) (fun _ => ?_) (fun _ => ?_)) | (refine effD_by2 (F := ans) (fun _ => ?_) (fun _ => ?_)) | simp -implicitDefEqProofs (disch := first | omega | (simp only [List.length_append, List.length_cons, List.length_nil, List.length_drop, List.length_take]; omega)) only [evs, tys, lors, Nat.reduceAdd, Nat.reduceSub, Nat.reduceMul, Nat.reducePow, Nat.reduceBEq, Nat.reduceLT, Nat.reduceLeDiff, Nat.reduceEqDiff, Int.reduceLT, Int.reduceLE, Int.reduceEq, Int.reduceNe, Int.reduceToNat, reduceCtorEq, codeKey, List.contains, List.elem, Ev.load, peek, pack, storeV, fieldAddr, field, cvB])
  all_goals (refine congrArg some (congrArg (V.int _) ?_); unfold digitsL; split <;> omega)

/-- A number's value, if it is at most most. -/
def valO (most : Int) (n : Int) : List UInt8 → Option Int
  | [] => some n
  | b :: r => if (most - ((b.toNat : Int) - 48)) / 10 < n then none else valO most (10 * n + ((b.toNat : Int) - 48)) r

theorem valO_bound {most : Int} (hm : 9 ≤ most) : ∀ (l : List UInt8) (n v : Int), (∀ b ∈ l, isDig b) → 0 ≤ n → n ≤ most → valO most n l = some v → 0 ≤ v ∧ v ≤ most
  | [], n, v, _, h0, h1, h => by simp only [valO, Option.some.injEq] at h; omega
  | b :: r, n, v, hd, h0, h1, h => by
    simp only [valO] at h
    have hb := hd b (by simp)
    unfold isDig at hb
    split at h
    · cases h
    · rename_i hc
      exact valO_bound hm r _ v (fun x hx => hd x (by simp [hx])) (by omega) (by omega) h

theorem getD_mem {l : List UInt8} {i : Nat} (h : i < l.length) : l.getD i 0 ∈ l := by
  rw [List.getD_eq_getElem?_getD, List.getElem?_eq_getElem h]; exact List.getElem_mem h

theorem loop40 (l : List UInt8) (hl : l.length < 4611686018427387904) (most : Int) (hm : 9 ≤ most) (hm' : most ≤ 4611686018427387904) (hdig : ∀ b ∈ l, isDig b) (H : Heap) (K : Kont) (R : Res) (a : Code) (ha : loopIn Tryd.prog 40 3 = some a)
    (h1 : ∀ v, valO most 0 l = some v → K (.exit 0) (Sl 32 .wild [(0, .str (bs l)), (1, .int .i64 most), (4, .int .i64 0), (5, .int .i64 v), (6, .int .i64 (l.length : Nat))]) H = R)
    (h2 : valO most 0 l = none → ∀ y z, K .ret (Sl 32 .wild [(0, .str (bs l)), (1, .int .i64 most), (4, .int .i64 (most + 1)), (5, y), (6, z)]) H = R) :
    ∀ (n i : Nat) (x k : Int), l.length - i = n → i ≤ l.length → k = i → 0 ≤ x → x ≤ most → valO most 0 l = valO most x (l.drop i) →
    loopL lore 40 a (Sl 32 .wild [(0, .str (bs l)), (1, .int .i64 most), (4, .int .i64 0), (5, .int .i64 x), (6, .int .i64 k)]) H K = R := by
  have hk := loop_key ha
  simp only [loopIn, Tryd.func40, Tryd.f40, loopAt, Option.bind_some, codeKey, if_true, Option.some.injEq, Nat.reduceEqDiff, if_false] at ha
  intro n
  induction n using Nat.strongRecOn with
  | _ n ih =>
  intro i x k hn hi hk' hx0 hx1 he
  subst hk'
  rw [loopL_step' ha]
  refine of_res ?_
  by_cases h : i < l.length
  · have hb := hdig _ (getD_mem h)
    unfold isDig at hb
    have hdr := drop_getD h
    repeat' (first | (refine cond_by (F := res) (fun _ => ?_) (fun _ => ?_)) | (refine wayK_by (F := res) (fun _ hb => ?_) (fun _ hb => ?_) <;> simp only [hb]) | (refine wayK_byN (F := res) (fun _ hb => ?_) (fun _ hb => ?_) <;> simp only [hb]) | (refine wayD_by (F := res) (fun _ hb => ?_) (fun _ hb => ?_) <;> simp only [hb]) | (refine wayD_byN (F := res) (fun _ hb => ?_) (fun _ hb => ?_) <;> simp only [hb]) | (refine rdK_by (F := res) (fun _ => ?_) (fun _ => ?_)) | (refine effK_by (F := res) (fun _ => ?_) (fun _ => ?_)) | (refine effK_by2 (F := res) (fun _ => ?_) (fun _ => ?_)) | (refine rdD_by (F := res) (fun _ => ?_) (fun _ => ?_)) | (refine effD_by (F := res) (fun _ => ?_) (fun _ => ?_)) | (refine effD_by2 (F := res) (fun _ => ?_) (fun _ => ?_)) | simp -implicitDefEqProofs (disch := first | omega | (simp only [List.length_append, List.length_cons, List.length_nil, List.length_drop, List.length_take]; omega)) only [evs, tys, lors, Nat.reduceAdd, Nat.reduceSub, Nat.reduceMul, Nat.reducePow, Nat.reduceBEq, Nat.reduceLT, Nat.reduceLeDiff, Nat.reduceEqDiff, Int.reduceLT, Int.reduceLE, Int.reduceEq, Int.reduceNe, Int.reduceToNat, reduceCtorEq, codeKey, List.contains, List.elem, Ev.load, peek, pack, storeV, fieldAddr, field, cvB, hk, cast_succ])
    · rw [res_eq]
      refine h2 ?_ _ _
      rw [he, hdr]; simp only [valO]; rw [if_pos (by omega)]
    · rw [res_eq]
      refine ih _ (by omega) (i + 1) _ _ rfl (by omega) rfl (by omega) (by omega) ?_
      rw [he, hdr]; simp only [valO]; rw [if_neg (by omega)]
    · exfalso; omega
  · have e : i = l.length := by omega
    subst e
    repeat' (first | (refine cond_by (F := res) (fun _ => ?_) (fun _ => ?_)) | (refine wayK_by (F := res) (fun _ hb => ?_) (fun _ hb => ?_) <;> simp only [hb]) | (refine wayK_byN (F := res) (fun _ hb => ?_) (fun _ hb => ?_) <;> simp only [hb]) | (refine wayD_by (F := res) (fun _ hb => ?_) (fun _ hb => ?_) <;> simp only [hb]) | (refine wayD_byN (F := res) (fun _ hb => ?_) (fun _ hb => ?_) <;> simp only [hb]) | (refine rdK_by (F := res) (fun _ => ?_) (fun _ => ?_)) | (refine effK_by (F := res) (fun _ => ?_) (fun _ => ?_)) | (refine effK_by2 (F := res) (fun _ => ?_) (fun _ => ?_)) | (refine rdD_by (F := res) (fun _ => ?_) (fun _ => ?_)) | (refine effD_by (F := res) (fun _ => ?_) (fun _ => ?_)) | (refine effD_by2 (F := res) (fun _ => ?_) (fun _ => ?_)) | simp -implicitDefEqProofs (disch := first | omega | (simp only [List.length_append, List.length_cons, List.length_nil, List.length_drop, List.length_take]; omega)) only [evs, tys, lors, Nat.reduceAdd, Nat.reduceSub, Nat.reduceMul, Nat.reducePow, Nat.reduceBEq, Nat.reduceLT, Nat.reduceLeDiff, Nat.reduceEqDiff, Int.reduceLT, Int.reduceLE, Int.reduceEq, Int.reduceNe, Int.reduceToNat, reduceCtorEq, codeKey, List.contains, List.elem, Ev.load, peek, pack, storeV, fieldAddr, field, cvB, hk, cast_succ])
    any_goals (exfalso; omega)
    · rw [res_eq]
      refine h1 x ?_
      rw [he, List.drop_length]; rfl

theorem value_cv (l : List UInt8) (hl : l.length < 4611686018427387904) (most : Int) (hm : 9 ≤ most) (hm' : most ≤ 4611686018427387904) (hdig : ∀ b ∈ l, isDig b) (H : Heap) :
    callV (CL lore) 40 [.str (bs l), .int .i64 most] H = some (.int .i64 ((valO most 0 l).getD (most + 1)), H) := by
  refine callV_ans (r := some _) ?_ (lore_shared 40) rfl H
  rw [call_start lore_ext40 Tryd.func40 rfl lore_okf40 (Nat.le_of_ble_eq_true rfl)]
  simp -implicitDefEqProofs (disch := first | omega | (simp only [List.length_append, List.length_cons, List.length_nil, List.length_drop, List.length_take]; omega)) only [evs, tys, lors, Nat.reduceAdd, Nat.reduceSub, Nat.reduceMul, Nat.reducePow, Nat.reduceBEq, Nat.reduceLT, Nat.reduceLeDiff, Nat.reduceEqDiff, Int.reduceLT, Int.reduceLE, Int.reduceEq, Int.reduceNe, Int.reduceToNat, reduceCtorEq, codeKey, List.contains, List.elem, Ev.load, peek, pack, storeV, fieldAddr, field, cvB]
  rw [loop40 l hl most hm hm' hdig [] _ (some (.int .i64 ((valO most 0 l).getD (most + 1)), [])) _ (by rfl) ?_ ?_ l.length 0 0 0 (by omega) (by omega) rfl (by omega) (by omega) (by rw [List.drop_zero])]
  · simp -implicitDefEqProofs (disch := first | omega | (simp only [List.length_append, List.length_cons, List.length_nil, List.length_drop, List.length_take]; omega)) only [evs, tys, lors, Nat.reduceAdd, Nat.reduceSub, Nat.reduceMul, Nat.reducePow, Nat.reduceBEq, Nat.reduceLT, Nat.reduceLeDiff, Nat.reduceEqDiff, Int.reduceLT, Int.reduceLE, Int.reduceEq, Int.reduceNe, Int.reduceToNat, reduceCtorEq, codeKey, List.contains, List.elem, Ev.load, peek, pack, storeV, fieldAddr, field, cvB]
  · intro v hv
    rw [hv]
    simp -implicitDefEqProofs (disch := first | omega | (simp only [List.length_append, List.length_cons, List.length_nil, List.length_drop, List.length_take]; omega)) only [evs, tys, lors, Nat.reduceAdd, Nat.reduceSub, Nat.reduceMul, Nat.reducePow, Nat.reduceBEq, Nat.reduceLT, Nat.reduceLeDiff, Nat.reduceEqDiff, Int.reduceLT, Int.reduceLE, Int.reduceEq, Int.reduceNe, Int.reduceToNat, reduceCtorEq, codeKey, List.contains, List.elem, Ev.load, peek, pack, storeV, fieldAddr, field, cvB]
  · intro hv y z
    rw [hv]
    simp -implicitDefEqProofs (disch := first | omega | (simp only [List.length_append, List.length_cons, List.length_nil, List.length_drop, List.length_take]; omega)) only [evs, tys, lors, Nat.reduceAdd, Nat.reduceSub, Nat.reduceMul, Nat.reducePow, Nat.reduceBEq, Nat.reduceLT, Nat.reduceLeDiff, Nat.reduceEqDiff, Int.reduceLT, Int.reduceLE, Int.reduceEq, Int.reduceNe, Int.reduceToNat, reduceCtorEq, codeKey, List.contains, List.elem, Ev.load, peek, pack, storeV, fieldAddr, field, cvB]

/-- Bounds. -/
def inB (lo hi n : Int) : Prop := lo ≤ n ∧ n ≤ hi
instance (lo hi n : Int) : Decidable (inB lo hi n) := by unfold inB; infer_instance
def MaxAt : Int := 2305843009213693952

theorem moment_cv (n : Int) (H : Heap) : callV (CL lore) 32 [.int .i64 n] H = some (.bool (decide (0 ≤ n ∧ n ≤ 2305843009213693952)), H) := by
  refine callV_ans (r := some _) ?_ (lore_shared 32) rfl H
  rw [call_start lore_ext32 Tryd.func32 rfl lore_okf32 (Nat.le_of_ble_eq_true rfl)]
  repeat' (first | (refine cond_by (F := ans) (fun _ => ?_) (fun _ => ?_)) | (refine wayK_by (F := ans) (fun _ hb => ?_) (fun _ hb => ?_) <;> simp only [hb]) | (refine wayK_byN (F := ans) (fun _ hb => ?_) (fun _ hb => ?_) <;> simp only [hb]) | (refine wayD_by (F := ans) (fun _ hb => ?_) (fun _ hb => ?_) <;> simp only [hb]) | (refine wayD_byN (F := ans) (fun _ hb => ?_) (fun _ hb => ?_) <;> simp only [hb]) | (refine rdK_by (F := ans) (fun _ => ?_) (fun _ => ?_)) | (refine effK_by (F := ans) (fun _ => ?_) (fun _ => ?_)) | (refine effK_by2 (F := ans) (fun _ => ?_) (fun _ => ?_)) | (refine rdD_by (F := ans) (fun _ => ?_) (fun _ => ?_)) | (refine effD_by (F := ans) (fun _ => ?_) (fun _ => ?_)) | (refine effD_by2 (F := ans) (fun _ => ?_) (fun _ => ?_)) | simp -implicitDefEqProofs (disch := first | omega | (simp only [List.length_append, List.length_cons, List.length_nil, List.length_drop, List.length_take]; omega)) only [evs, tys, lors, Nat.reduceAdd, Nat.reduceSub, Nat.reduceMul, Nat.reducePow, Nat.reduceBEq, Nat.reduceLT, Nat.reduceLeDiff, Nat.reduceEqDiff, Int.reduceLT, Int.reduceLE, Int.reduceEq, Int.reduceNe, Int.reduceToNat, reduceCtorEq, codeKey, List.contains, List.elem, Ev.load, peek, pack, storeV, fieldAddr, field, cvB])
  all_goals (refine congrArg some (congrArg V.bool ?_); simp; try omega)
theorem span_cv (n : Int) (H : Heap) : callV (CL lore) 35 [.int .i64 n] H = some (.bool (decide (0 ≤ n ∧ n ≤ 2305843009213693952)), H) := by
  refine callV_ans (r := some _) ?_ (lore_shared 35) rfl H
  rw [call_start lore_ext35 Tryd.func35 rfl lore_okf35 (Nat.le_of_ble_eq_true rfl)]
  repeat' (first | (refine cond_by (F := ans) (fun _ => ?_) (fun _ => ?_)) | (refine wayK_by (F := ans) (fun _ hb => ?_) (fun _ hb => ?_) <;> simp only [hb]) | (refine wayK_byN (F := ans) (fun _ hb => ?_) (fun _ hb => ?_) <;> simp only [hb]) | (refine wayD_by (F := ans) (fun _ hb => ?_) (fun _ hb => ?_) <;> simp only [hb]) | (refine wayD_byN (F := ans) (fun _ hb => ?_) (fun _ hb => ?_) <;> simp only [hb]) | (refine rdK_by (F := ans) (fun _ => ?_) (fun _ => ?_)) | (refine effK_by (F := ans) (fun _ => ?_) (fun _ => ?_)) | (refine effK_by2 (F := ans) (fun _ => ?_) (fun _ => ?_)) | (refine rdD_by (F := ans) (fun _ => ?_) (fun _ => ?_)) | (refine effD_by (F := ans) (fun _ => ?_) (fun _ => ?_)) | (refine effD_by2 (F := ans) (fun _ => ?_) (fun _ => ?_)) | simp -implicitDefEqProofs (disch := first | omega | (simp only [List.length_append, List.length_cons, List.length_nil, List.length_drop, List.length_take]; omega)) only [evs, tys, lors, Nat.reduceAdd, Nat.reduceSub, Nat.reduceMul, Nat.reducePow, Nat.reduceBEq, Nat.reduceLT, Nat.reduceLeDiff, Nat.reduceEqDiff, Int.reduceLT, Int.reduceLE, Int.reduceEq, Int.reduceNe, Int.reduceToNat, reduceCtorEq, codeKey, List.contains, List.elem, Ev.load, peek, pack, storeV, fieldAddr, field, cvB])
  all_goals (refine congrArg some (congrArg V.bool ?_); simp; try omega)
theorem length_cv (n : Int) (H : Heap) : callV (CL lore) 46 [.int .i64 n] H = some (.bool (decide (1 ≤ n ∧ n ≤ 2305843009213693952)), H) := by
  refine callV_ans (r := some _) ?_ (lore_shared 46) rfl H
  rw [call_start lore_ext46 Tryd.func46 rfl lore_okf46 (Nat.le_of_ble_eq_true rfl)]
  repeat' (first | (refine cond_by (F := ans) (fun _ => ?_) (fun _ => ?_)) | (refine wayK_by (F := ans) (fun _ hb => ?_) (fun _ hb => ?_) <;> simp only [hb]) | (refine wayK_byN (F := ans) (fun _ hb => ?_) (fun _ hb => ?_) <;> simp only [hb]) | (refine wayD_by (F := ans) (fun _ hb => ?_) (fun _ hb => ?_) <;> simp only [hb]) | (refine wayD_byN (F := ans) (fun _ hb => ?_) (fun _ hb => ?_) <;> simp only [hb]) | (refine rdK_by (F := ans) (fun _ => ?_) (fun _ => ?_)) | (refine effK_by (F := ans) (fun _ => ?_) (fun _ => ?_)) | (refine effK_by2 (F := ans) (fun _ => ?_) (fun _ => ?_)) | (refine rdD_by (F := ans) (fun _ => ?_) (fun _ => ?_)) | (refine effD_by (F := ans) (fun _ => ?_) (fun _ => ?_)) | (refine effD_by2 (F := ans) (fun _ => ?_) (fun _ => ?_)) | simp -implicitDefEqProofs (disch := first | omega | (simp only [List.length_append, List.length_cons, List.length_nil, List.length_drop, List.length_take]; omega)) only [evs, tys, lors, Nat.reduceAdd, Nat.reduceSub, Nat.reduceMul, Nat.reducePow, Nat.reduceBEq, Nat.reduceLT, Nat.reduceLeDiff, Nat.reduceEqDiff, Int.reduceLT, Int.reduceLE, Int.reduceEq, Int.reduceNe, Int.reduceToNat, reduceCtorEq, codeKey, List.contains, List.elem, Ev.load, peek, pack, storeV, fieldAddr, field, cvB])
  all_goals (refine congrArg some (congrArg V.bool ?_); simp; try omega)
def windowF (n l : Int) : V := if (0 ≤ n ∧ n ≤ 2305843009213693952) ∧ (1 ≤ l ∧ l ≤ 2305843009213693952) then .tup [.int .i64 (n / l), .int .i64 0] else .tup [.int .i64 0, .int .i64 2]
def windowI (n l : Int) : V := if (0 ≤ n ∧ n ≤ 2305843009213693952) ∧ (1 ≤ l ∧ l ≤ 2305843009213693952) then .tup [.int .i64 (n / l), .int .i64 0] else .tup [.int .i64 0, .int .i64 2]
theorem window_cv (n l : Int) (H : Heap) : callV (CL lore) 16 [.int .i64 n, .int .i64 l] H = if (0 ≤ n ∧ n ≤ 2305843009213693952) ∧ (1 ≤ l ∧ l ≤ 2305843009213693952) then some (.tup [.int .i64 (n / l), .int .i64 0], H) else some (.tup [.int .i64 0, .int .i64 2], H) := by
  rw [callV_ans (r := if (0 ≤ n ∧ n ≤ 2305843009213693952) ∧ (1 ≤ l ∧ l ≤ 2305843009213693952) then some (.tup [.int .i64 (n / l), .int .i64 0]) else some (.tup [.int .i64 0, .int .i64 2])) ?_ (lore_shared 16) rfl H]
  · split <;> rfl
  rw [call_start lore_ext16 Tryd.func16 rfl lore_okf16 (Nat.le_of_ble_eq_true rfl)]
  repeat' (first | (refine cond_by (F := ans) (fun _ => ?_) (fun _ => ?_)) | (refine wayK_by (F := ans) (fun _ hb => ?_) (fun _ hb => ?_) <;> simp only [hb]) | (refine wayK_byN (F := ans) (fun _ hb => ?_) (fun _ hb => ?_) <;> simp only [hb]) | (refine wayD_by (F := ans) (fun _ hb => ?_) (fun _ hb => ?_) <;> simp only [hb]) | (refine wayD_byN (F := ans) (fun _ hb => ?_) (fun _ hb => ?_) <;> simp only [hb]) | (refine rdK_by (F := ans) (fun _ => ?_) (fun _ => ?_)) | (refine effK_by (F := ans) (fun _ => ?_) (fun _ => ?_)) | (refine effK_by2 (F := ans) (fun _ => ?_) (fun _ => ?_)) | (refine rdD_by (F := ans) (fun _ => ?_) (fun _ => ?_)) | (refine effD_by (F := ans) (fun _ => ?_) (fun _ => ?_)) | (refine effD_by2 (F := ans) (fun _ => ?_) (fun _ => ?_)) | simp -implicitDefEqProofs (disch := first | omega | (simp only [List.length_append, List.length_cons, List.length_nil, List.length_drop, List.length_take]; omega)) only [evs, tys, lors, Nat.reduceAdd, Nat.reduceSub, Nat.reduceMul, Nat.reducePow, Nat.reduceBEq, Nat.reduceLT, Nat.reduceLeDiff, Nat.reduceEqDiff, Int.reduceLT, Int.reduceLE, Int.reduceEq, Int.reduceNe, Int.reduceToNat, reduceCtorEq, codeKey, List.contains, List.elem, Ev.load, peek, pack, storeV, fieldAddr, field, cvB, moment_cv, length_cv])
  all_goals first | rfl | (rw [if_pos (by omega)]; done) | (rw [if_neg (by omega)]; done) | (exfalso; omega)
theorem rwindow_cv (n l : Int) (H : Heap) : callV (CL lore) 18 [.int .i64 n, .int .i64 l] H = if (0 ≤ n ∧ n ≤ 2305843009213693952) ∧ (1 ≤ l ∧ l ≤ 2305843009213693952) then some (.tup [.int .i64 (n / l), .int .i64 0], H) else some (.tup [.int .i64 0, .int .i64 2], H) := by
  rw [callV_ans (r := if (0 ≤ n ∧ n ≤ 2305843009213693952) ∧ (1 ≤ l ∧ l ≤ 2305843009213693952) then some (.tup [.int .i64 (n / l), .int .i64 0]) else some (.tup [.int .i64 0, .int .i64 2])) ?_ (lore_shared 18) rfl H]
  · split <;> rfl
  rw [call_start lore_ext18 Tryd.func18 rfl lore_okf18 (Nat.le_of_ble_eq_true rfl)]
  repeat' (first | (refine cond_by (F := ans) (fun _ => ?_) (fun _ => ?_)) | (refine wayK_by (F := ans) (fun _ hb => ?_) (fun _ hb => ?_) <;> simp only [hb]) | (refine wayK_byN (F := ans) (fun _ hb => ?_) (fun _ hb => ?_) <;> simp only [hb]) | (refine wayD_by (F := ans) (fun _ hb => ?_) (fun _ hb => ?_) <;> simp only [hb]) | (refine wayD_byN (F := ans) (fun _ hb => ?_) (fun _ hb => ?_) <;> simp only [hb]) | (refine rdK_by (F := ans) (fun _ => ?_) (fun _ => ?_)) | (refine effK_by (F := ans) (fun _ => ?_) (fun _ => ?_)) | (refine effK_by2 (F := ans) (fun _ => ?_) (fun _ => ?_)) | (refine rdD_by (F := ans) (fun _ => ?_) (fun _ => ?_)) | (refine effD_by (F := ans) (fun _ => ?_) (fun _ => ?_)) | (refine effD_by2 (F := ans) (fun _ => ?_) (fun _ => ?_)) | simp -implicitDefEqProofs (disch := first | omega | (simp only [List.length_append, List.length_cons, List.length_nil, List.length_drop, List.length_take]; omega)) only [evs, tys, lors, Nat.reduceAdd, Nat.reduceSub, Nat.reduceMul, Nat.reducePow, Nat.reduceBEq, Nat.reduceLT, Nat.reduceLeDiff, Nat.reduceEqDiff, Int.reduceLT, Int.reduceLE, Int.reduceEq, Int.reduceNe, Int.reduceToNat, reduceCtorEq, codeKey, List.contains, List.elem, Ev.load, peek, pack, storeV, fieldAddr, field, cvB, span_cv])
  all_goals first | rfl | (rw [if_pos (by omega)]; done) | (rw [if_neg (by omega)]; done) | (exfalso; omega)
theorem mul_bound {n l : Int} (h0 : 0 ≤ n) (h1 : 1 ≤ l) (h : n ≤ 2305843009213693952 / l) : 0 ≤ n * l ∧ n * l ≤ 2305843009213693952 := by
  refine ⟨Int.mul_nonneg h0 (by omega), ?_⟩
  have := Int.mul_le_mul_of_nonneg_right h (by omega : 0 ≤ l)
  have h2 := Int.ediv_mul_le 2305843009213693952 (show l ≠ 0 by omega)
  omega
theorem bounds_cv (n l : Int) (H : Heap) : callV (CL lore) 17 [.int .i64 n, .int .i64 l] H = if ((1 ≤ l ∧ l ≤ 2305843009213693952) ∧ 0 ≤ n ∧ n ≤ 2305843009213693952 / l) then some (.tup [.int .i64 (n * l), .int .i64 (n * l + l), .int .i64 0], H) else some (.tup [.int .i64 0, .int .i64 0, .int .i64 2], H) := by
  rw [callV_ans (r := if ((1 ≤ l ∧ l ≤ 2305843009213693952) ∧ 0 ≤ n ∧ n ≤ 2305843009213693952 / l) then some (.tup [.int .i64 (n * l), .int .i64 (n * l + l), .int .i64 0]) else some (.tup [.int .i64 0, .int .i64 0, .int .i64 2])) ?_ (lore_shared 17) rfl H]
  · split <;> rfl
  rw [call_start lore_ext17 Tryd.func17 rfl lore_okf17 (Nat.le_of_ble_eq_true rfl)]
  have hm : ((1 ≤ l ∧ l ≤ 2305843009213693952) ∧ 0 ≤ n ∧ n ≤ 2305843009213693952 / l) → 0 ≤ n * l ∧ n * l ≤ 2305843009213693952 := fun ⟨h1, h2, h3⟩ => mul_bound h2 h1.1 h3
  repeat' (first | (refine cond_by (F := ans) (fun _ => ?_) (fun _ => ?_)) | (refine wayK_by (F := ans) (fun _ hb => ?_) (fun _ hb => ?_) <;> simp only [hb]) | (refine wayK_byN (F := ans) (fun _ hb => ?_) (fun _ hb => ?_) <;> simp only [hb]) | (refine wayD_by (F := ans) (fun _ hb => ?_) (fun _ hb => ?_) <;> simp only [hb]) | (refine wayD_byN (F := ans) (fun _ hb => ?_) (fun _ hb => ?_) <;> simp only [hb]) | (refine rdK_by (F := ans) (fun _ => ?_) (fun _ => ?_)) | (refine effK_by (F := ans) (fun _ => ?_) (fun _ => ?_)) | (refine effK_by2 (F := ans) (fun _ => ?_) (fun _ => ?_)) | (refine rdD_by (F := ans) (fun _ => ?_) (fun _ => ?_)) | (refine effD_by (F := ans) (fun _ => ?_) (fun _ => ?_)) | (refine effD_by2 (F := ans) (fun _ => ?_) (fun _ => ?_)) | simp -implicitDefEqProofs (disch := first | omega | (simp only [List.length_append, List.length_cons, List.length_nil, List.length_drop, List.length_take]; omega)) only [evs, tys, lors, Nat.reduceAdd, Nat.reduceSub, Nat.reduceMul, Nat.reducePow, Nat.reduceBEq, Nat.reduceLT, Nat.reduceLeDiff, Nat.reduceEqDiff, Int.reduceLT, Int.reduceLE, Int.reduceEq, Int.reduceNe, Int.reduceToNat, reduceCtorEq, codeKey, List.contains, List.elem, Ev.load, peek, pack, storeV, fieldAddr, field, cvB, length_cv])
  all_goals first | rfl | (rw [if_pos (by omega)]; done) | (rw [if_neg (by omega)]; done) | (exfalso; omega)
theorem rbounds_cv (n l : Int) (H : Heap) : callV (CL lore) 19 [.int .i64 n, .int .i64 l] H = if ((1 ≤ l ∧ l ≤ 2305843009213693952) ∧ 0 ≤ n ∧ n ≤ 2305843009213693952 / l) then some (.tup [.int .i64 (n * l), .int .i64 (n * l + l), .int .i64 0], H) else some (.tup [.int .i64 0, .int .i64 0, .int .i64 2], H) := by
  rw [callV_ans (r := if ((1 ≤ l ∧ l ≤ 2305843009213693952) ∧ 0 ≤ n ∧ n ≤ 2305843009213693952 / l) then some (.tup [.int .i64 (n * l), .int .i64 (n * l + l), .int .i64 0]) else some (.tup [.int .i64 0, .int .i64 0, .int .i64 2])) ?_ (lore_shared 19) rfl H]
  · split <;> rfl
  rw [call_start lore_ext19 Tryd.func19 rfl lore_okf19 (Nat.le_of_ble_eq_true rfl)]
  have hm : ((1 ≤ l ∧ l ≤ 2305843009213693952) ∧ 0 ≤ n ∧ n ≤ 2305843009213693952 / l) → 0 ≤ n * l ∧ n * l ≤ 2305843009213693952 := fun ⟨h1, h2, h3⟩ => mul_bound h2 h1.1 h3
  repeat' (first | (refine cond_by (F := ans) (fun _ => ?_) (fun _ => ?_)) | (refine wayK_by (F := ans) (fun _ hb => ?_) (fun _ hb => ?_) <;> simp only [hb]) | (refine wayK_byN (F := ans) (fun _ hb => ?_) (fun _ hb => ?_) <;> simp only [hb]) | (refine wayD_by (F := ans) (fun _ hb => ?_) (fun _ hb => ?_) <;> simp only [hb]) | (refine wayD_byN (F := ans) (fun _ hb => ?_) (fun _ hb => ?_) <;> simp only [hb]) | (refine rdK_by (F := ans) (fun _ => ?_) (fun _ => ?_)) | (refine effK_by (F := ans) (fun _ => ?_) (fun _ => ?_)) | (refine effK_by2 (F := ans) (fun _ => ?_) (fun _ => ?_)) | (refine rdD_by (F := ans) (fun _ => ?_) (fun _ => ?_)) | (refine effD_by (F := ans) (fun _ => ?_) (fun _ => ?_)) | (refine effD_by2 (F := ans) (fun _ => ?_) (fun _ => ?_)) | simp -implicitDefEqProofs (disch := first | omega | (simp only [List.length_append, List.length_cons, List.length_nil, List.length_drop, List.length_take]; omega)) only [evs, tys, lors, Nat.reduceAdd, Nat.reduceSub, Nat.reduceMul, Nat.reducePow, Nat.reduceBEq, Nat.reduceLT, Nat.reduceLeDiff, Nat.reduceEqDiff, Int.reduceLT, Int.reduceLE, Int.reduceEq, Int.reduceNe, Int.reduceToNat, reduceCtorEq, codeKey, List.contains, List.elem, Ev.load, peek, pack, storeV, fieldAddr, field, cvB])
  all_goals first | rfl | (rw [if_pos (by omega)]; done) | (rw [if_neg (by omega)]; done) | (exfalso; omega)
theorem touched_cv (a b l : Int) (H : Heap) : callV (CL lore) 20 [.int .i64 a, .int .i64 b, .int .i64 l] H = if ((1 ≤ l ∧ l ≤ 2305843009213693952) ∧ 0 ≤ a ∧ a ≤ b ∧ b ≤ 2305843009213693952) then some (.tup [.int .i64 (a / l), .int .i64 (b / l), .int .i64 0], H) else some (.tup [.int .i64 0, .int .i64 0, .int .i64 2], H) := by
  rw [callV_ans (r := if ((1 ≤ l ∧ l ≤ 2305843009213693952) ∧ 0 ≤ a ∧ a ≤ b ∧ b ≤ 2305843009213693952) then some (.tup [.int .i64 (a / l), .int .i64 (b / l), .int .i64 0]) else some (.tup [.int .i64 0, .int .i64 0, .int .i64 2])) ?_ (lore_shared 20) rfl H]
  · split <;> rfl
  rw [call_start lore_ext20 Tryd.func20 rfl lore_okf20 (Nat.le_of_ble_eq_true rfl)]
  repeat' (first | (refine cond_by (F := ans) (fun _ => ?_) (fun _ => ?_)) | (refine wayK_by (F := ans) (fun _ hb => ?_) (fun _ hb => ?_) <;> simp only [hb]) | (refine wayK_byN (F := ans) (fun _ hb => ?_) (fun _ hb => ?_) <;> simp only [hb]) | (refine wayD_by (F := ans) (fun _ hb => ?_) (fun _ hb => ?_) <;> simp only [hb]) | (refine wayD_byN (F := ans) (fun _ hb => ?_) (fun _ hb => ?_) <;> simp only [hb]) | (refine rdK_by (F := ans) (fun _ => ?_) (fun _ => ?_)) | (refine effK_by (F := ans) (fun _ => ?_) (fun _ => ?_)) | (refine effK_by2 (F := ans) (fun _ => ?_) (fun _ => ?_)) | (refine rdD_by (F := ans) (fun _ => ?_) (fun _ => ?_)) | (refine effD_by (F := ans) (fun _ => ?_) (fun _ => ?_)) | (refine effD_by2 (F := ans) (fun _ => ?_) (fun _ => ?_)) | simp -implicitDefEqProofs (disch := first | omega | (simp only [List.length_append, List.length_cons, List.length_nil, List.length_drop, List.length_take]; omega)) only [evs, tys, lors, Nat.reduceAdd, Nat.reduceSub, Nat.reduceMul, Nat.reducePow, Nat.reduceBEq, Nat.reduceLT, Nat.reduceLeDiff, Nat.reduceEqDiff, Int.reduceLT, Int.reduceLE, Int.reduceEq, Int.reduceNe, Int.reduceToNat, reduceCtorEq, codeKey, List.contains, List.elem, Ev.load, peek, pack, storeV, fieldAddr, field, cvB, window_cv])
  all_goals first | rfl | (rw [if_pos (by omega)]; done) | (rw [if_neg (by omega)]; done) | (exfalso; omega)
theorem rtouched_cv (a b l : Int) (H : Heap) : callV (CL lore) 21 [.int .i64 a, .int .i64 b, .int .i64 l] H = if ((1 ≤ l ∧ l ≤ 2305843009213693952) ∧ 0 ≤ a ∧ a ≤ b ∧ b ≤ 2305843009213693952) then some (.tup [.int .i64 (a / l), .int .i64 (b / l), .int .i64 0], H) else some (.tup [.int .i64 0, .int .i64 0, .int .i64 2], H) := by
  rw [callV_ans (r := if ((1 ≤ l ∧ l ≤ 2305843009213693952) ∧ 0 ≤ a ∧ a ≤ b ∧ b ≤ 2305843009213693952) then some (.tup [.int .i64 (a / l), .int .i64 (b / l), .int .i64 0]) else some (.tup [.int .i64 0, .int .i64 0, .int .i64 2])) ?_ (lore_shared 21) rfl H]
  · split <;> rfl
  rw [call_start lore_ext21 Tryd.func21 rfl lore_okf21 (Nat.le_of_ble_eq_true rfl)]
  repeat' (first | (refine cond_by (F := ans) (fun _ => ?_) (fun _ => ?_)) | (refine wayK_by (F := ans) (fun _ hb => ?_) (fun _ hb => ?_) <;> simp only [hb]) | (refine wayK_byN (F := ans) (fun _ hb => ?_) (fun _ hb => ?_) <;> simp only [hb]) | (refine wayD_by (F := ans) (fun _ hb => ?_) (fun _ hb => ?_) <;> simp only [hb]) | (refine wayD_byN (F := ans) (fun _ hb => ?_) (fun _ hb => ?_) <;> simp only [hb]) | (refine rdK_by (F := ans) (fun _ => ?_) (fun _ => ?_)) | (refine effK_by (F := ans) (fun _ => ?_) (fun _ => ?_)) | (refine effK_by2 (F := ans) (fun _ => ?_) (fun _ => ?_)) | (refine rdD_by (F := ans) (fun _ => ?_) (fun _ => ?_)) | (refine effD_by (F := ans) (fun _ => ?_) (fun _ => ?_)) | (refine effD_by2 (F := ans) (fun _ => ?_) (fun _ => ?_)) | simp -implicitDefEqProofs (disch := first | omega | (simp only [List.length_append, List.length_cons, List.length_nil, List.length_drop, List.length_take]; omega)) only [evs, tys, lors, Nat.reduceAdd, Nat.reduceSub, Nat.reduceMul, Nat.reducePow, Nat.reduceBEq, Nat.reduceLT, Nat.reduceLeDiff, Nat.reduceEqDiff, Int.reduceLT, Int.reduceLE, Int.reduceEq, Int.reduceNe, Int.reduceToNat, reduceCtorEq, codeKey, List.contains, List.elem, Ev.load, peek, pack, storeV, fieldAddr, field, cvB, rwindow_cv])
  all_goals first | rfl | (rw [if_pos (by omega)]; done) | (rw [if_neg (by omega)]; done) | (exfalso; omega)
end Go.Proofs.YtgoillhmgpokoaaDoor
