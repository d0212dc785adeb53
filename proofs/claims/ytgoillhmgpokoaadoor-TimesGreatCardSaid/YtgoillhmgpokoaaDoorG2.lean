/-
times.units, times.named; the document's unit, unitAt: as plain Lean.
-/
import Derived.Test.YtgoillhmgpokoaaDoorG1
namespace Go.Proofs.YtgoillhmgpokoaaDoor
open Go Ev
set_option linter.all false
set_option maxHeartbeats 4000000
set_option maxRecDepth 5000
attribute [local irreducible] codeL condL loopL callL callV evOps evDraw rdK effK wayK oneK wayD oneD rdD effD chks chkB res

def unitV (s : List UInt8) (n : Int) : V := .agg [.str (bs s), .int .i64 n]
def unitTab : List (List UInt8 × Int) := [([104], 3600000000000), ([109], 60000000000), ([115], 1000000000), ([109, 115], 1000000), ([117, 115], 1000), ([110, 115], 1)]
def nameOf (i : Nat) : List UInt8 := (unitTab.getD i ([], 0)).1
def nsOf (i : Nat) : Int := (unitTab.getD i ([], 0)).2
def unitsV : V := .sl [unitV [104] 3600000000000, unitV [109] 60000000000, unitV [115] 1000000000, unitV [109, 115] 1000000, unitV [117, 115] 1000, unitV [110, 115] 1] 2 true

theorem units_cv (H : Heap) : callV (CL lore) 33 [] H = some (unitsV, H) := by
  refine callV_ans (r := some _) ?_ (lore_shared 33) rfl H
  rw [call_start lore_ext33 Tryd.func33 rfl lore_okf33 (Nat.le_of_ble_eq_true rfl)]
  repeat' (first | (refine cond_by (F := ans) (fun _ => ?_) (fun _ => ?_)) | (refine wayK_by (F := ans) (fun _ hb => ?_) (fun _ hb => ?_) <;> simp only [hb]) | (refine wayK_byN (F := ans) (fun _ hb => ?_) (fun _ hb => ?_) <;> simp only [hb]) | (refine wayD_by (F := ans) (fun _ hb => ?_) (fun _ hb => ?_) <;> simp only [hb]) | (refine wayD_byN (F := ans) (fun _ hb => ?_) (fun _ hb => ?_) <;> simp only [hb]) | (refine rdK_by (F := ans) (fun _ => ?_) (fun _ => ?_)) | (refine effK_by (F := ans) (fun _ => ?_) (fun _ => ?_)) | (refine effK_by2 (F := ans) (fun _ => ?_) (fun _ => ?_)) | (refine rdD_by (F := ans) (fun _ => ?_) (fun _ => ?_)) | (refine effD_by (F := ans) (fun _ => ?_) (fun _ => ?_)) | (refine effD_by2 (F := ans) (fun _ => ?_) (fun _ => ?_)) | simp -implicitDefEqProofs (disch := first | omega | (simp only [List.length_append, List.length_cons, List.length_nil, List.length_drop, List.length_take]; omega)) only [evs, tys, lors, Nat.reduceAdd, Nat.reduceSub, Nat.reduceMul, Nat.reducePow, Nat.reduceBEq, Nat.reduceLT, Nat.reduceLeDiff, Nat.reduceEqDiff, Int.reduceLT, Int.reduceLE, Int.reduceEq, Int.reduceNe, Int.reduceToNat, reduceCtorEq, codeKey, List.contains, List.elem, Ev.load, peek, pack, storeV, fieldAddr, field, cvB, unitsV, unitV, litV, Option.isSome])

theorem lt6 {i : Nat} (h : i < 6) : i = 0 ∨ i = 1 ∨ i = 2 ∨ i = 3 ∨ i = 4 ∨ i = 5 := by omega
theorem units_at {i : Nat} (h : i < 6) (H : Heap) (q : IntKind) : idxA Tryd.prog H 52 unitsV (.int q (i : Int)) = some (.iptr [.str (bs (nameOf i)), .int .i64 (nsOf i)]) := by
  rcases lt6 h with rfl | rfl | rfl | rfl | rfl | rfl <;> simp [idxA, indexAddr, Tryd.underlying52, unitsV, els, szOk, sz55, unitV, V.cells, nameOf, nsOf, unitTab]
theorem units_len (H : Heap) : lenU H (some (.slice 55)) unitsV = some (.int .i64 6) := by
  simp [lenU, unitsV, els]
theorem nameOf_len (i : Nat) : (nameOf i).length ≤ 2 := by
  by_cases h : i < 6
  · rcases lt6 h with rfl | rfl | rfl | rfl | rfl | rfl <;> simp [nameOf, unitTab]
  · have : unitTab.length ≤ i := by simp [unitTab]; omega
    simp [nameOf, List.getD_eq_getElem?_getD, List.getElem?_eq_none this]
theorem nsOf_pos {i : Nat} (h : i < 6) : 1 ≤ nsOf i ∧ nsOf i ≤ 3600000000000 := by
  rcases lt6 h with rfl | rfl | rfl | rfl | rfl | rfl <;> simp [nsOf, unitTab]

/-- How far two texts go together. -/
def cpl : List UInt8 → List UInt8 → Nat
  | a :: r, b :: q => if b.toNat = a.toNat then cpl r q + 1 else 0
  | _, _ => 0
theorem cpl_le_left : ∀ a b, cpl a b ≤ a.length
  | [], _ => by simp [cpl]
  | a :: r, [] => by simp [cpl]
  | a :: r, b :: q => by
    have := cpl_le_left r q
    simp only [cpl, List.length_cons]
    split <;> omega
theorem cpl_le_right : ∀ a b, cpl a b ≤ b.length
  | [], _ => by simp [cpl]
  | a :: r, [] => by simp [cpl]
  | a :: r, b :: q => by
    have := cpl_le_right r q
    simp only [cpl, List.length_cons]
    split <;> omega

theorem loop39_8 (s nm : List UInt8) (ns : Int) (hs : s.length < 4611686018427387904) (hm : nm.length < 4611686018427387904) (H : Heap) (p : Nat) (hp : H[p]? = some ⟨[.str (bs nm), .int .i64 ns], 0, false, false⟩) (x1 x6 x7 x8 x11 x12 x13 : V) (K : Kont) (a : Code) (ha : loopIn Tryd.prog 39 8 = some a) :
    ∀ (n k : Nat) (z : Int), nm.length - k = n → k ≤ nm.length → k ≤ s.length → z = k →
    loopL lore 39 a (Sl 70 .wild [(0, .str (bs s)), (1, x1), (6, x6), (7, x7), (8, x8), (9, .ptr p 0), (10, .int .i64 z), (11, x11), (12, x12), (13, x13)]) H K = K (.exit 2) (Sl 70 .wild [(0, .str (bs s)), (1, x1), (6, x6), (7, x7), (8, x8), (9, .ptr p 0), (10, .int .i64 ((k + cpl (nm.drop k) (s.drop k) : Nat) : Int)), (11, x11), (12, x12), (13, x13)]) H := by
  have hk := loop_key ha
  simp only [loopIn, Tryd.func39, Tryd.f39, loopAt, Option.bind_some, codeKey, if_true, Option.some.injEq, Nat.reduceEqDiff, if_false] at ha
  intro n
  induction n using Nat.strongRecOn with
  | _ n ih =>
  intro k z hn hk1 hk2 hz
  subst hz
  rw [loopL_step' ha]
  refine of_res ?_
  repeat' (first | (refine cond_by (F := res) (fun _ => ?_) (fun _ => ?_)) | (refine wayK_by (F := res) (fun _ hb => ?_) (fun _ hb => ?_) <;> simp only [hb]) | (refine wayK_byN (F := res) (fun _ hb => ?_) (fun _ hb => ?_) <;> simp only [hb]) | (refine wayD_by (F := res) (fun _ hb => ?_) (fun _ hb => ?_) <;> simp only [hb]) | (refine wayD_byN (F := res) (fun _ hb => ?_) (fun _ hb => ?_) <;> simp only [hb]) | (refine rdK_by (F := res) (fun _ => ?_) (fun _ => ?_)) | (refine effK_by (F := res) (fun _ => ?_) (fun _ => ?_)) | (refine effK_by2 (F := res) (fun _ => ?_) (fun _ => ?_)) | (refine rdD_by (F := res) (fun _ => ?_) (fun _ => ?_)) | (refine effD_by (F := res) (fun _ => ?_) (fun _ => ?_)) | (refine effD_by2 (F := res) (fun _ => ?_) (fun _ => ?_)) | simp -implicitDefEqProofs (disch := first | omega | (simp only [List.length_append, List.length_cons, List.length_nil, List.length_drop, List.length_take]; omega)) only [evs, tys, lors, Nat.reduceAdd, Nat.reduceSub, Nat.reduceMul, Nat.reducePow, Nat.reduceBEq, Nat.reduceLT, Nat.reduceLeDiff, Nat.reduceEqDiff, Int.reduceLT, Int.reduceLE, Int.reduceEq, Int.reduceNe, Int.reduceToNat, reduceCtorEq, codeKey, List.contains, List.elem, Ev.load, peek, pack, storeV, fieldAddr, field, cvB, hk, cast_succ, hp])
  all_goals rw [res_eq]
  · have h1 : k < nm.length := by omega
    have h2 : k < s.length := by omega
    rw [ih _ (by omega) (k + 1) _ rfl (by omega) (by omega) rfl, drop_getD h1, drop_getD h2]
    simp only [cpl]
    rw [if_pos (by omega), show k + 1 + cpl (nm.drop (k + 1)) (s.drop (k + 1)) = k + (cpl (nm.drop (k + 1)) (s.drop (k + 1)) + 1) by omega]
  · have h1 : k < nm.length := by omega
    have h2 : k < s.length := by omega
    rw [drop_getD h1, drop_getD h2]
    simp only [cpl]
    rw [if_neg (by omega)]; rfl
  · have h1 : k < nm.length := by omega
    rw [drop_getD h1, List.drop_eq_nil_of_le (show s.length ≤ k by omega)]
    simp only [cpl]; rfl
  · rw [List.drop_eq_nil_of_le (show nm.length ≤ k by omega)]
    simp only [cpl]; rfl

def stepU (s : List UInt8) (i : Nat) : Option Nat → Option Nat
  | none => if cpl (nameOf i) s = (nameOf i).length then some i else none
  | some j => if cpl (nameOf i) s = (nameOf i).length ∧ (nameOf j).length < cpl (nameOf i) s then some i else some j
def optI : Option Nat → Int
  | none => -1
  | some i => i
def namedL (s : List UInt8) (frm : Nat) : List Nat → Option Nat → Nat → Option Nat × Nat
  | [], a, best => (a, best)
  | i :: r, a, best => if i < frm then namedL s frm r a best else namedL s frm r (stepU s i a) (max best (cpl (nameOf i) s))
theorem range6 {i : Nat} (h : i < 6) : List.range' i (6 - i) = i :: List.range' (i + 1) (6 - (i + 1)) := by
  rw [show 6 - i = (6 - (i + 1)) + 1 by omega, List.range'_succ]
theorem cast_max (a b : Nat) : max (a : Int) (b : Int) = ((max a b : Nat) : Int) := by omega

theorem loop39_4 (s : List UInt8) (frm : Nat) (hs : s.length < 4611686018427387904) (K : Kont) (R : Option V) (a : Code) (ha : loopIn Tryd.prog 39 4 = some a) :
    ∀ (n i : Nat) (z : Int) (at_ : Option Nat) (best : Nat) (H : Heap), 6 - i = n → i ≤ 6 → z = i → (∀ j, at_ = some j → j < 6) →
    (∀ H', ans (K (.exit 0) (Sl 70 .wild [(0, .str (bs s)), (1, .int .i64 frm), (6, .int .i64 (namedL s frm (List.range' i (6 - i)) at_ best).2), (7, .int .i64 (optI (namedL s frm (List.range' i (6 - i)) at_ best).1)), (11, unitsV), (12, .int .i64 6), (13, .int .i64 6)]) H') = R) →
    ans (loopL lore 39 a (Sl 70 .wild [(0, .str (bs s)), (1, .int .i64 frm), (6, .int .i64 best), (7, .int .i64 (optI at_)), (11, unitsV), (12, .int .i64 6), (13, .int .i64 z)]) H K) = R := by
  have hk := loop_key ha
  simp only [loopIn, Tryd.func39, Tryd.f39, loopAt, Option.bind_some, codeKey, if_true, Option.some.injEq, Nat.reduceEqDiff, if_false] at ha
  intro n
  induction n using Nat.strongRecOn with
  | _ n ih =>
  intro i z at_ best H hn hi hz hat h1
  subst hz
  rw [loopL_step' ha]
  by_cases h : i < 6
  · have hnl := nameOf_len i
    rw [range6 h] at h1
    repeat' (first | (refine cond_by (F := ans) (fun _ => ?_) (fun _ => ?_)) | (refine wayK_by (F := ans) (fun _ hb => ?_) (fun _ hb => ?_) <;> simp only [hb]) | (refine wayK_byN (F := ans) (fun _ hb => ?_) (fun _ hb => ?_) <;> simp only [hb]) | (refine wayD_by (F := ans) (fun _ hb => ?_) (fun _ hb => ?_) <;> simp only [hb]) | (refine wayD_byN (F := ans) (fun _ hb => ?_) (fun _ hb => ?_) <;> simp only [hb]) | (refine rdK_by (F := ans) (fun _ => ?_) (fun _ => ?_)) | (refine effK_by (F := ans) (fun _ => ?_) (fun _ => ?_)) | (refine effK_by2 (F := ans) (fun _ => ?_) (fun _ => ?_)) | (refine rdD_by (F := ans) (fun _ => ?_) (fun _ => ?_)) | (refine effD_by (F := ans) (fun _ => ?_) (fun _ => ?_)) | (refine effD_by2 (F := ans) (fun _ => ?_) (fun _ => ?_)) | simp -implicitDefEqProofs (disch := first | omega | (simp only [List.length_append, List.length_cons, List.length_nil, List.length_drop, List.length_take]; omega)) only [evs, tys, lors, Nat.reduceAdd, Nat.reduceSub, Nat.reduceMul, Nat.reducePow, Nat.reduceBEq, Nat.reduceLT, Nat.reduceLeDiff, Nat.reduceEqDiff, Int.reduceLT, Int.reduceLE, Int.reduceEq, Int.reduceNe, Int.reduceToNat, reduceCtorEq, codeKey, List.contains, List.elem, Ev.load, peek, pack, storeV, fieldAddr, field, cvB, hk, cast_succ, units_at h])
    · simp only [namedL] at h1
      rw [if_pos (by omega)] at h1
      exact ih _ (by omega) (i + 1) _ at_ best _ rfl (by omega) rfl hat h1
    · simp only [namedL] at h1
      rw [if_neg (by omega)] at h1
      rw [loop39_8 s (nameOf i) (nsOf i) hs (by omega) _ H.length (by simp) _ _ _ _ _ _ _ _ _ (by rfl) _ 0 0 rfl (by omega) (by omega) rfl]
      simp only [List.drop_zero, Nat.zero_add]
      cases at_ with
      | none =>
        have e : optI none = -1 := rfl
        simp only [stepU] at h1
        repeat' (first | (refine cond_by (F := ans) (fun _ => ?_) (fun _ => ?_)) | (refine wayK_by (F := ans) (fun _ hb => ?_) (fun _ hb => ?_) <;> simp only [hb]) | (refine wayK_byN (F := ans) (fun _ hb => ?_) (fun _ hb => ?_) <;> simp only [hb]) | (refine wayD_by (F := ans) (fun _ hb => ?_) (fun _ hb => ?_) <;> simp only [hb]) | (refine wayD_byN (F := ans) (fun _ hb => ?_) (fun _ hb => ?_) <;> simp only [hb]) | (refine rdK_by (F := ans) (fun _ => ?_) (fun _ => ?_)) | (refine effK_by (F := ans) (fun _ => ?_) (fun _ => ?_)) | (refine effK_by2 (F := ans) (fun _ => ?_) (fun _ => ?_)) | (refine rdD_by (F := ans) (fun _ => ?_) (fun _ => ?_)) | (refine effD_by (F := ans) (fun _ => ?_) (fun _ => ?_)) | (refine effD_by2 (F := ans) (fun _ => ?_) (fun _ => ?_)) | simp -implicitDefEqProofs (disch := first | omega | (simp only [List.length_append, List.length_cons, List.length_nil, List.length_drop, List.length_take]; omega)) only [evs, tys, lors, Nat.reduceAdd, Nat.reduceSub, Nat.reduceMul, Nat.reducePow, Nat.reduceBEq, Nat.reduceLT, Nat.reduceLeDiff, Nat.reduceEqDiff, Int.reduceLT, Int.reduceLE, Int.reduceEq, Int.reduceNe, Int.reduceToNat, reduceCtorEq, codeKey, List.contains, List.elem, Ev.load, peek, pack, storeV, fieldAddr, field, cvB, hk, cast_succ, e, get_new0, cast_max])
        · rw [if_pos (by omega)] at h1
          exact ih _ (by omega) (i + 1) _ (some i) _ _ rfl (by omega) rfl (fun j hj => by cases hj; exact h) (fun H' => by simpa using h1 H')
        · rw [if_neg (by omega)] at h1
          exact ih _ (by omega) (i + 1) _ none _ _ rfl (by omega) rfl hat (fun H' => by simpa using h1 H')
      | some j =>
        have e : optI (some j) = (j : Int) := rfl
        have hj := hat j rfl
        simp only [stepU] at h1
        repeat' (first | (refine cond_by (F := ans) (fun _ => ?_) (fun _ => ?_)) | (refine wayK_by (F := ans) (fun _ hb => ?_) (fun _ hb => ?_) <;> simp only [hb]) | (refine wayK_byN (F := ans) (fun _ hb => ?_) (fun _ hb => ?_) <;> simp only [hb]) | (refine wayD_by (F := ans) (fun _ hb => ?_) (fun _ hb => ?_) <;> simp only [hb]) | (refine wayD_byN (F := ans) (fun _ hb => ?_) (fun _ hb => ?_) <;> simp only [hb]) | (refine rdK_by (F := ans) (fun _ => ?_) (fun _ => ?_)) | (refine effK_by (F := ans) (fun _ => ?_) (fun _ => ?_)) | (refine effK_by2 (F := ans) (fun _ => ?_) (fun _ => ?_)) | (refine rdD_by (F := ans) (fun _ => ?_) (fun _ => ?_)) | (refine effD_by (F := ans) (fun _ => ?_) (fun _ => ?_)) | (refine effD_by2 (F := ans) (fun _ => ?_) (fun _ => ?_)) | simp -implicitDefEqProofs (disch := first | omega | (simp only [List.length_append, List.length_cons, List.length_nil, List.length_drop, List.length_take]; omega)) only [evs, tys, lors, Nat.reduceAdd, Nat.reduceSub, Nat.reduceMul, Nat.reducePow, Nat.reduceBEq, Nat.reduceLT, Nat.reduceLeDiff, Nat.reduceEqDiff, Int.reduceLT, Int.reduceLE, Int.reduceEq, Int.reduceNe, Int.reduceToNat, reduceCtorEq, codeKey, List.contains, List.elem, Ev.load, peek, pack, storeV, fieldAddr, field, cvB, hk, cast_succ, e, get_new0, units_cv, units_at hj, cast_max])
        · exfalso; omega
        · rw [if_pos (by omega)] at h1
          exact ih _ (by omega) (i + 1) _ (some i) _ _ rfl (by omega) rfl (fun j hj => by cases hj; exact h) (fun H' => by simpa using h1 H')
        · rw [if_neg (by omega)] at h1
          exact ih _ (by omega) (i + 1) _ (some j) _ _ rfl (by omega) rfl hat (fun H' => by simpa using h1 H')
        · rw [if_neg (by omega)] at h1
          exact ih _ (by omega) (i + 1) _ (some j) _ _ rfl (by omega) rfl hat (fun H' => by simpa using h1 H')
    · exfalso; omega
  · have : i = 6 := by omega
    subst this
    repeat' (first | (refine cond_by (F := ans) (fun _ => ?_) (fun _ => ?_)) | (refine wayK_by (F := ans) (fun _ hb => ?_) (fun _ hb => ?_) <;> simp only [hb]) | (refine wayK_byN (F := ans) (fun _ hb => ?_) (fun _ hb => ?_) <;> simp only [hb]) | (refine wayD_by (F := ans) (fun _ hb => ?_) (fun _ hb => ?_) <;> simp only [hb]) | (refine wayD_byN (F := ans) (fun _ hb => ?_) (fun _ hb => ?_) <;> simp only [hb]) | (refine rdK_by (F := ans) (fun _ => ?_) (fun _ => ?_)) | (refine effK_by (F := ans) (fun _ => ?_) (fun _ => ?_)) | (refine effK_by2 (F := ans) (fun _ => ?_) (fun _ => ?_)) | (refine rdD_by (F := ans) (fun _ => ?_) (fun _ => ?_)) | (refine effD_by (F := ans) (fun _ => ?_) (fun _ => ?_)) | (refine effD_by2 (F := ans) (fun _ => ?_) (fun _ => ?_)) | simp -implicitDefEqProofs (disch := first | omega | (simp only [List.length_append, List.length_cons, List.length_nil, List.length_drop, List.length_take]; omega)) only [evs, tys, lors, Nat.reduceAdd, Nat.reduceSub, Nat.reduceMul, Nat.reducePow, Nat.reduceBEq, Nat.reduceLT, Nat.reduceLeDiff, Nat.reduceEqDiff, Int.reduceLT, Int.reduceLE, Int.reduceEq, Int.reduceNe, Int.reduceToNat, reduceCtorEq, codeKey, List.contains, List.elem, Ev.load, peek, pack, storeV, fieldAddr, field, cvB, hk, cast_succ])
    exact h1 H
def namedF (s : List UInt8) (frm : Nat) : Option Nat × Nat := namedL s frm (List.range' 0 6) none 0
theorem named_cv (s : List UInt8) (hs : s.length < 4611686018427387904) (frm : Nat) (H : Heap) : callV (CL lore) 39 [.str (bs s), .int .i64 (frm : Int)] H = some (.tup [.int .i64 (optI (namedF s frm).1), .int .i64 ((namedF s frm).2 : Nat)], H) := by
  refine callV_ans (r := some _) ?_ (lore_shared 39) rfl H
  rw [call_start lore_ext39 Tryd.func39 rfl lore_okf39 (Nat.le_of_ble_eq_true rfl)]
  repeat' (first | (refine cond_by (F := ans) (fun _ => ?_) (fun _ => ?_)) | (refine wayK_by (F := ans) (fun _ hb => ?_) (fun _ hb => ?_) <;> simp only [hb]) | (refine wayK_byN (F := ans) (fun _ hb => ?_) (fun _ hb => ?_) <;> simp only [hb]) | (refine wayD_by (F := ans) (fun _ hb => ?_) (fun _ hb => ?_) <;> simp only [hb]) | (refine wayD_byN (F := ans) (fun _ hb => ?_) (fun _ hb => ?_) <;> simp only [hb]) | (refine rdK_by (F := ans) (fun _ => ?_) (fun _ => ?_)) | (refine effK_by (F := ans) (fun _ => ?_) (fun _ => ?_)) | (refine effK_by2 (F := ans) (fun _ => ?_) (fun _ => ?_)) | (refine rdD_by (F := ans) (fun _ => ?_) (fun _ => ?_)) | (refine effD_by (F := ans) (fun _ => ?_) (fun _ => ?_)) | (refine effD_by2 (F := ans) (fun _ => ?_) (fun _ => ?_)) | simp -implicitDefEqProofs (disch := first | omega | (simp only [List.length_append, List.length_cons, List.length_nil, List.length_drop, List.length_take]; omega)) only [evs, tys, lors, Nat.reduceAdd, Nat.reduceSub, Nat.reduceMul, Nat.reducePow, Nat.reduceBEq, Nat.reduceLT, Nat.reduceLeDiff, Nat.reduceEqDiff, Int.reduceLT, Int.reduceLE, Int.reduceEq, Int.reduceNe, Int.reduceToNat, reduceCtorEq, codeKey, List.contains, List.elem, Ev.load, peek, pack, storeV, fieldAddr, field, cvB, units_cv, units_len])
  refine loop39_4 s frm hs _ _ _ (by rfl) _ 0 0 none 0 _ rfl (by omega) rfl (fun j hj => by cases hj) (fun H' => ?_)
  repeat' (first | (refine cond_by (F := ans) (fun _ => ?_) (fun _ => ?_)) | (refine wayK_by (F := ans) (fun _ hb => ?_) (fun _ hb => ?_) <;> simp only [hb]) | (refine wayK_byN (F := ans) (fun _ hb => ?_) (fun _ hb => ?_) <;> simp only [hb]) | (refine wayD_by (F := ans) (fun _ hb => ?_) (fun _ hb => ?_) <;> simp only [hb]) | (refine wayD_byN (F := ans) (fun _ hb => ?_) (fun _ hb => ?_) <;> simp only [hb]) | (refine rdK_by (F := ans) (fun _ => ?_) (fun _ => ?_)) | (refine effK_by (F := ans) (fun _ => ?_) (fun _ => ?_)) | (refine effK_by2 (F := ans) (fun _ => ?_) (fun _ => ?_)) | (refine rdD_by (F := ans) (fun _ => ?_) (fun _ => ?_)) | (refine effD_by (F := ans) (fun _ => ?_) (fun _ => ?_)) | (refine effD_by2 (F := ans) (fun _ => ?_) (fun _ => ?_)) | simp -implicitDefEqProofs (disch := first | omega | (simp only [List.length_append, List.length_cons, List.length_nil, List.length_drop, List.length_take]; omega)) only [evs, tys, lors, Nat.reduceAdd, Nat.reduceSub, Nat.reduceMul, Nat.reducePow, Nat.reduceBEq, Nat.reduceLT, Nat.reduceLeDiff, Nat.reduceEqDiff, Int.reduceLT, Int.reduceLE, Int.reduceEq, Int.reduceNe, Int.reduceToNat, reduceCtorEq, codeKey, List.contains, List.elem, Ev.load, peek, pack, storeV, fieldAddr, field, cvB])
  rfl

/-! The document's. -/
theorem unitd_cv {i : Nat} (h : i < 6) (H : Heap) : callV (CL lore) 36 [.int .i64 (i : Int)] H = some (.tup [.str (bs (nameOf i)), .int .i64 (nsOf i)], H) := by
  refine callV_ans (r := some _) ?_ (lore_shared 36) rfl H
  rw [call_start lore_ext36 Tryd.func36 rfl lore_okf36 (Nat.le_of_ble_eq_true rfl)]
  rcases lt6 h with rfl | rfl | rfl | rfl | rfl | rfl <;> simp only [Int.cast_ofNat_Int, nameOf, nsOf, unitTab, List.getD_cons_zero, List.getD_cons_succ]
  all_goals repeat' (first | (refine cond_by (F := ans) (fun _ => ?_) (fun _ => ?_)) | (refine wayK_by (F := ans) (fun _ hb => ?_) (fun _ hb => ?_) <;> simp only [hb]) | (refine wayK_byN (F := ans) (fun _ hb => ?_) (fun _ hb => ?_) <;> simp only [hb]) | (refine wayD_by (F := ans) (fun _ hb => ?_) (fun _ hb => ?_) <;> simp only [hb]) | (refine wayD_byN (F := ans) (fun _ hb => ?_) (fun _ hb => ?_) <;> simp only [hb]) | (refine rdK_by (F := ans) (fun _ => ?_) (fun _ => ?_)) | (refine effK_by (F := ans) (fun _ => ?_) (fun _ => ?_)) | (refine effK_by2 (F := ans) (fun _ => ?_) (fun _ => ?_)) | (refine rdD_by (F := ans) (fun _ => ?_) (fun _ => ?_)) | (refine effD_by (F := ans) (fun _ => ?_) (fun _ => ?_)) | (refine effD_by2 (F := ans) (fun _ => ?_) (fun _ => ?_)) | simp -implicitDefEqProofs (disch := first | omega | (simp only [List.length_append, List.length_cons, List.length_nil, List.length_drop, List.length_take]; omega)) only [evs, tys, lors, Nat.reduceAdd, Nat.reduceSub, Nat.reduceMul, Nat.reducePow, Nat.reduceBEq, Nat.reduceLT, Nat.reduceLeDiff, Nat.reduceEqDiff, Int.reduceLT, Int.reduceLE, Int.reduceEq, Int.reduceNe, Int.reduceToNat, reduceCtorEq, codeKey, List.contains, List.elem, Ev.load, peek, pack, storeV, fieldAddr, field, cvB, Option.isSome, beq_self_eq_true])

theorem pfx_cpl : ∀ (nm t : List UInt8), nm.length ≤ t.length → (t.take nm.length = nm ↔ cpl nm t = nm.length)
  | [], t, _ => by simp [cpl]
  | a :: r, [], h => by simp at h
  | a :: r, b :: q, h => by
    simp only [List.length_cons] at h
    have := pfx_cpl r q (by omega)
    simp only [List.length_cons, List.take_succ_cons, List.cons.injEq, cpl]
    by_cases e : b.toNat = a.toNat
    · rw [if_pos e]
      have e2 : b = a := UInt8.toNat_inj.1 e
      simp only [e2, true_and, this]; omega
    · rw [if_neg e]
      have e2 : ¬ b = a := fun h => e (by rw [h])
      simp only [e2, false_and, false_iff]; omega

def farU (s : List UInt8) (i : Nat) : Prop := (nameOf i).length = 2 ∧ 0 < s.length ∧ (s.getD 0 0).toNat = ((nameOf i).getD 0 0).toNat
instance (s : List UInt8) (i : Nat) : Decidable (farU s i) := by unfold farU; infer_instance
def stepD (s : List UInt8) (i : Nat) : Option Nat → Option Nat
  | none => if cpl (nameOf i) s = (nameOf i).length then some i else none
  | some j => if cpl (nameOf i) s = (nameOf i).length ∧ (nameOf i).length = 2 then some i else some j
def bestL (s : List UInt8) : List Nat → Option Nat → Option Nat
  | [], a => a
  | i :: r, a => bestL s r (stepD s i a)
def farL (s : List UInt8) : List Nat → Nat → Nat
  | [], a => a
  | i :: r, a => farL s r (if farU s i ∧ a = 0 then 1 else a)

theorem loop42_3 (s : List UInt8) (p : Nat) (hp : p ≤ s.length) (hs : s.length < 4611686018427387904) (x2 : V) (K : Kont) (R : Option V) (a : Code) (ha : loopIn Tryd.prog 42 3 = some a) :
    ∀ (n i : Nat) (z : Int) (at_ : Option Nat) (H : Heap), 6 - i = n → i ≤ 6 → z = i →
    (∀ H', ans (K (.exit 0) (Sl 109 .wild [(0, .str (bs s)), (1, .int .i64 p), (2, x2), (9, .int .i64 (optI (bestL (s.drop p) (List.range' i (6 - i)) at_))), (10, .int .i64 6)]) H') = R) →
    ans (loopL lore 42 a (Sl 109 .wild [(0, .str (bs s)), (1, .int .i64 p), (2, x2), (9, .int .i64 (optI at_)), (10, .int .i64 z)]) H K) = R := by
  have hk := loop_key ha
  simp only [loopIn, Tryd.func42, Tryd.f42, loopAt, Option.bind_some, codeKey, if_true, Option.some.injEq, Nat.reduceEqDiff, if_false] at ha
  intro n
  induction n using Nat.strongRecOn with
  | _ n ih =>
  intro i z at_ H hn hi hz h1
  subst hz
  rw [loopL_step' ha]
  by_cases h : i < 6
  · have hnl := nameOf_len i
    have hcl := cpl_le_right (nameOf i) (s.drop p)
    have hdl : (s.drop p).length = s.length - p := List.length_drop
    rw [range6 h] at h1
    simp only [bestL] at h1
    have key : p + (nameOf i).length ≤ s.length → ((s.take (p + (nameOf i).length)).drop p = nameOf i ↔ cpl (nameOf i) (s.drop p) = (nameOf i).length) := fun hh => by
      rw [List.drop_take, show p + (nameOf i).length - p = (nameOf i).length by omega]
      exact pfx_cpl _ _ (by omega)
    have e3 : ((p : Int) + ((nameOf i).length : Int)).toNat = p + (nameOf i).length := by omega
    by_cases hh : p + (nameOf i).length ≤ s.length
    · have keyR : ((s.take (p + (nameOf i).length)).drop p = nameOf i) = (cpl (nameOf i) (s.drop p) = (nameOf i).length) := propext (key hh)
      cases at_ with
      | none =>
        have e : optI none = -1 := rfl
        simp only [stepD] at h1
        repeat' (first | (refine cond_by (F := ans) (fun _ => ?_) (fun _ => ?_)) | (refine wayK_by (F := ans) (fun _ hb => ?_) (fun _ hb => ?_) <;> simp only [hb]) | (refine wayK_byN (F := ans) (fun _ hb => ?_) (fun _ hb => ?_) <;> simp only [hb]) | (refine wayD_by (F := ans) (fun _ hb => ?_) (fun _ hb => ?_) <;> simp only [hb]) | (refine wayD_byN (F := ans) (fun _ hb => ?_) (fun _ hb => ?_) <;> simp only [hb]) | (refine rdK_by (F := ans) (fun _ => ?_) (fun _ => ?_)) | (refine effK_by (F := ans) (fun _ => ?_) (fun _ => ?_)) | (refine effK_by2 (F := ans) (fun _ => ?_) (fun _ => ?_)) | (refine rdD_by (F := ans) (fun _ => ?_) (fun _ => ?_)) | (refine effD_by (F := ans) (fun _ => ?_) (fun _ => ?_)) | (refine effD_by2 (F := ans) (fun _ => ?_) (fun _ => ?_)) | simp -implicitDefEqProofs (disch := first | omega | (simp only [List.length_append, List.length_cons, List.length_nil, List.length_drop, List.length_take]; omega)) only [evs, tys, lors, Nat.reduceAdd, Nat.reduceSub, Nat.reduceMul, Nat.reducePow, Nat.reduceBEq, Nat.reduceLT, Nat.reduceLeDiff, Nat.reduceEqDiff, Int.reduceLT, Int.reduceLE, Int.reduceEq, Int.reduceNe, Int.reduceToNat, reduceCtorEq, codeKey, List.contains, List.elem, Ev.load, peek, pack, storeV, fieldAddr, field, cvB, hk, cast_succ, unitd_cv h, e, e3, keyR])
        any_goals (exfalso; omega)
        · rw [if_pos (by omega)] at h1
          exact ih _ (by omega) (i + 1) _ (some i) _ rfl (by omega) rfl h1
        · rw [if_neg (by omega)] at h1
          exact ih _ (by omega) (i + 1) _ none _ rfl (by omega) rfl h1
      | some j =>
        have e : optI (some j) = (j : Int) := rfl
        simp only [stepD] at h1
        repeat' (first | (refine cond_by (F := ans) (fun _ => ?_) (fun _ => ?_)) | (refine wayK_by (F := ans) (fun _ hb => ?_) (fun _ hb => ?_) <;> simp only [hb]) | (refine wayK_byN (F := ans) (fun _ hb => ?_) (fun _ hb => ?_) <;> simp only [hb]) | (refine wayD_by (F := ans) (fun _ hb => ?_) (fun _ hb => ?_) <;> simp only [hb]) | (refine wayD_byN (F := ans) (fun _ hb => ?_) (fun _ hb => ?_) <;> simp only [hb]) | (refine rdK_by (F := ans) (fun _ => ?_) (fun _ => ?_)) | (refine effK_by (F := ans) (fun _ => ?_) (fun _ => ?_)) | (refine effK_by2 (F := ans) (fun _ => ?_) (fun _ => ?_)) | (refine rdD_by (F := ans) (fun _ => ?_) (fun _ => ?_)) | (refine effD_by (F := ans) (fun _ => ?_) (fun _ => ?_)) | (refine effD_by2 (F := ans) (fun _ => ?_) (fun _ => ?_)) | simp -implicitDefEqProofs (disch := first | omega | (simp only [List.length_append, List.length_cons, List.length_nil, List.length_drop, List.length_take]; omega)) only [evs, tys, lors, Nat.reduceAdd, Nat.reduceSub, Nat.reduceMul, Nat.reducePow, Nat.reduceBEq, Nat.reduceLT, Nat.reduceLeDiff, Nat.reduceEqDiff, Int.reduceLT, Int.reduceLE, Int.reduceEq, Int.reduceNe, Int.reduceToNat, reduceCtorEq, codeKey, List.contains, List.elem, Ev.load, peek, pack, storeV, fieldAddr, field, cvB, hk, cast_succ, unitd_cv h, e, e3, keyR])
        any_goals (exfalso; omega)
        · rw [if_pos (by omega)] at h1
          exact ih _ (by omega) (i + 1) _ (some i) _ rfl (by omega) rfl h1
        · rw [if_neg (by omega)] at h1
          exact ih _ (by omega) (i + 1) _ (some j) _ rfl (by omega) rfl h1
        · rw [if_neg (by omega)] at h1
          exact ih _ (by omega) (i + 1) _ (some j) _ rfl (by omega) rfl h1
    · cases at_ with
      | none =>
        have e : optI none = -1 := rfl
        simp only [stepD] at h1
        repeat' (first | (refine cond_by (F := ans) (fun _ => ?_) (fun _ => ?_)) | (refine wayK_by (F := ans) (fun _ hb => ?_) (fun _ hb => ?_) <;> simp only [hb]) | (refine wayK_byN (F := ans) (fun _ hb => ?_) (fun _ hb => ?_) <;> simp only [hb]) | (refine wayD_by (F := ans) (fun _ hb => ?_) (fun _ hb => ?_) <;> simp only [hb]) | (refine wayD_byN (F := ans) (fun _ hb => ?_) (fun _ hb => ?_) <;> simp only [hb]) | (refine rdK_by (F := ans) (fun _ => ?_) (fun _ => ?_)) | (refine effK_by (F := ans) (fun _ => ?_) (fun _ => ?_)) | (refine effK_by2 (F := ans) (fun _ => ?_) (fun _ => ?_)) | (refine rdD_by (F := ans) (fun _ => ?_) (fun _ => ?_)) | (refine effD_by (F := ans) (fun _ => ?_) (fun _ => ?_)) | (refine effD_by2 (F := ans) (fun _ => ?_) (fun _ => ?_)) | simp -implicitDefEqProofs (disch := first | omega | (simp only [List.length_append, List.length_cons, List.length_nil, List.length_drop, List.length_take]; omega)) only [evs, tys, lors, Nat.reduceAdd, Nat.reduceSub, Nat.reduceMul, Nat.reducePow, Nat.reduceBEq, Nat.reduceLT, Nat.reduceLeDiff, Nat.reduceEqDiff, Int.reduceLT, Int.reduceLE, Int.reduceEq, Int.reduceNe, Int.reduceToNat, reduceCtorEq, codeKey, List.contains, List.elem, Ev.load, peek, pack, storeV, fieldAddr, field, cvB, hk, cast_succ, unitd_cv h, e, e3])
        any_goals (exfalso; omega)
        · rw [if_neg (by omega)] at h1
          exact ih _ (by omega) (i + 1) _ none _ rfl (by omega) rfl h1
      | some j =>
        have e : optI (some j) = (j : Int) := rfl
        simp only [stepD] at h1
        repeat' (first | (refine cond_by (F := ans) (fun _ => ?_) (fun _ => ?_)) | (refine wayK_by (F := ans) (fun _ hb => ?_) (fun _ hb => ?_) <;> simp only [hb]) | (refine wayK_byN (F := ans) (fun _ hb => ?_) (fun _ hb => ?_) <;> simp only [hb]) | (refine wayD_by (F := ans) (fun _ hb => ?_) (fun _ hb => ?_) <;> simp only [hb]) | (refine wayD_byN (F := ans) (fun _ hb => ?_) (fun _ hb => ?_) <;> simp only [hb]) | (refine rdK_by (F := ans) (fun _ => ?_) (fun _ => ?_)) | (refine effK_by (F := ans) (fun _ => ?_) (fun _ => ?_)) | (refine effK_by2 (F := ans) (fun _ => ?_) (fun _ => ?_)) | (refine rdD_by (F := ans) (fun _ => ?_) (fun _ => ?_)) | (refine effD_by (F := ans) (fun _ => ?_) (fun _ => ?_)) | (refine effD_by2 (F := ans) (fun _ => ?_) (fun _ => ?_)) | simp -implicitDefEqProofs (disch := first | omega | (simp only [List.length_append, List.length_cons, List.length_nil, List.length_drop, List.length_take]; omega)) only [evs, tys, lors, Nat.reduceAdd, Nat.reduceSub, Nat.reduceMul, Nat.reducePow, Nat.reduceBEq, Nat.reduceLT, Nat.reduceLeDiff, Nat.reduceEqDiff, Int.reduceLT, Int.reduceLE, Int.reduceEq, Int.reduceNe, Int.reduceToNat, reduceCtorEq, codeKey, List.contains, List.elem, Ev.load, peek, pack, storeV, fieldAddr, field, cvB, hk, cast_succ, unitd_cv h, e, e3])
        any_goals (exfalso; omega)
        · rw [if_neg (by omega)] at h1
          exact ih _ (by omega) (i + 1) _ (some j) _ rfl (by omega) rfl h1
  · have : i = 6 := by omega
    subst this
    repeat' (first | (refine cond_by (F := ans) (fun _ => ?_) (fun _ => ?_)) | (refine wayK_by (F := ans) (fun _ hb => ?_) (fun _ hb => ?_) <;> simp only [hb]) | (refine wayK_byN (F := ans) (fun _ hb => ?_) (fun _ hb => ?_) <;> simp only [hb]) | (refine wayD_by (F := ans) (fun _ hb => ?_) (fun _ hb => ?_) <;> simp only [hb]) | (refine wayD_byN (F := ans) (fun _ hb => ?_) (fun _ hb => ?_) <;> simp only [hb]) | (refine rdK_by (F := ans) (fun _ => ?_) (fun _ => ?_)) | (refine effK_by (F := ans) (fun _ => ?_) (fun _ => ?_)) | (refine effK_by2 (F := ans) (fun _ => ?_) (fun _ => ?_)) | (refine rdD_by (F := ans) (fun _ => ?_) (fun _ => ?_)) | (refine effD_by (F := ans) (fun _ => ?_) (fun _ => ?_)) | (refine effD_by2 (F := ans) (fun _ => ?_) (fun _ => ?_)) | simp -implicitDefEqProofs (disch := first | omega | (simp only [List.length_append, List.length_cons, List.length_nil, List.length_drop, List.length_take]; omega)) only [evs, tys, lors, Nat.reduceAdd, Nat.reduceSub, Nat.reduceMul, Nat.reducePow, Nat.reduceBEq, Nat.reduceLT, Nat.reduceLeDiff, Nat.reduceEqDiff, Int.reduceLT, Int.reduceLE, Int.reduceEq, Int.reduceNe, Int.reduceToNat, reduceCtorEq, codeKey, List.contains, List.elem, Ev.load, peek, pack, storeV, fieldAddr, field, cvB, hk, cast_succ])
    exact h1 H

theorem getD_drop (s : List UInt8) (p k : Nat) : (s.drop p).getD k 0 = s.getD (p + k) 0 := by
  simp only [List.getD_eq_getElem?_getD, List.getElem?_drop]

theorem loop42_13 (s : List UInt8) (p : Nat) (hp : p ≤ s.length) (hs : s.length < 4611686018427387904) (K : Kont) (R : Option V) (a : Code) (ha : loopIn Tryd.prog 42 13 = some a) :
    ∀ (n i : Nat) (z : Int) (far : Nat) (y : Int) (H : Heap), 6 - i = n → i ≤ 6 → z = i → far ≤ 1 → y = p + far →
    (∀ H', ans (K (.exit 2) (Sl 109 .wild [(0, .str (bs s)), (1, .int .i64 p), (15, .int .i64 (p + (farL (s.drop p) (List.range' i (6 - i)) far : Nat))), (16, .int .i64 6)]) H') = R) →
    ans (loopL lore 42 a (Sl 109 .wild [(0, .str (bs s)), (1, .int .i64 p), (15, .int .i64 y), (16, .int .i64 z)]) H K) = R := by
  have hk := loop_key ha
  simp only [loopIn, Tryd.func42, Tryd.f42, loopAt, Option.bind_some, codeKey, if_true, Option.some.injEq, Nat.reduceEqDiff, if_false] at ha
  intro n
  induction n using Nat.strongRecOn with
  | _ n ih =>
  intro i z far y H hn hi hz hf hy h1
  subst hz
  subst hy
  rw [loopL_step' ha]
  by_cases h : i < 6
  · have hnl := nameOf_len i
    have hdl : (s.drop p).length = s.length - p := List.length_drop
    have e0 : (p : Int).toNat = p := by omega
    have eg := getD_drop s p 0
    simp only [Nat.add_zero] at eg
    rw [range6 h] at h1
    simp only [farL, farU, eg] at h1
    repeat' (first | (refine cond_by (F := ans) (fun _ => ?_) (fun _ => ?_)) | (refine wayK_by (F := ans) (fun _ hb => ?_) (fun _ hb => ?_) <;> simp only [hb]) | (refine wayK_byN (F := ans) (fun _ hb => ?_) (fun _ hb => ?_) <;> simp only [hb]) | (refine wayD_by (F := ans) (fun _ hb => ?_) (fun _ hb => ?_) <;> simp only [hb]) | (refine wayD_byN (F := ans) (fun _ hb => ?_) (fun _ hb => ?_) <;> simp only [hb]) | (refine rdK_by (F := ans) (fun _ => ?_) (fun _ => ?_)) | (refine effK_by (F := ans) (fun _ => ?_) (fun _ => ?_)) | (refine effK_by2 (F := ans) (fun _ => ?_) (fun _ => ?_)) | (refine rdD_by (F := ans) (fun _ => ?_) (fun _ => ?_)) | (refine effD_by (F := ans) (fun _ => ?_) (fun _ => ?_)) | (refine effD_by2 (F := ans) (fun _ => ?_) (fun _ => ?_)) | simp -implicitDefEqProofs (disch := first | omega | (simp only [List.length_append, List.length_cons, List.length_nil, List.length_drop, List.length_take]; omega)) only [evs, tys, lors, Nat.reduceAdd, Nat.reduceSub, Nat.reduceMul, Nat.reducePow, Nat.reduceBEq, Nat.reduceLT, Nat.reduceLeDiff, Nat.reduceEqDiff, Int.reduceLT, Int.reduceLE, Int.reduceEq, Int.reduceNe, Int.reduceToNat, reduceCtorEq, codeKey, List.contains, List.elem, Ev.load, peek, pack, storeV, fieldAddr, field, cvB, hk, cast_succ, unitd_cv h])
    all_goals first
      | (exfalso; omega)
      | (rw [if_pos (by omega)] at h1; exact ih _ (by omega) (i + 1) _ 1 _ _ rfl (by omega) rfl (by omega) (by omega) h1)
      | (rw [if_neg (by omega)] at h1; exact ih _ (by omega) (i + 1) _ far _ _ rfl (by omega) rfl (by omega) (by omega) h1)
  · have : i = 6 := by omega
    subst this
    repeat' (first | (refine cond_by (F := ans) (fun _ => ?_) (fun _ => ?_)) | (refine wayK_by (F := ans) (fun _ hb => ?_) (fun _ hb => ?_) <;> simp only [hb]) | (refine wayK_byN (F := ans) (fun _ hb => ?_) (fun _ hb => ?_) <;> simp only [hb]) | (refine wayD_by (F := ans) (fun _ hb => ?_) (fun _ hb => ?_) <;> simp only [hb]) | (refine wayD_byN (F := ans) (fun _ hb => ?_) (fun _ hb => ?_) <;> simp only [hb]) | (refine rdK_by (F := ans) (fun _ => ?_) (fun _ => ?_)) | (refine effK_by (F := ans) (fun _ => ?_) (fun _ => ?_)) | (refine effK_by2 (F := ans) (fun _ => ?_) (fun _ => ?_)) | (refine rdD_by (F := ans) (fun _ => ?_) (fun _ => ?_)) | (refine effD_by (F := ans) (fun _ => ?_) (fun _ => ?_)) | (refine effD_by2 (F := ans) (fun _ => ?_) (fun _ => ?_)) | simp -implicitDefEqProofs (disch := first | omega | (simp only [List.length_append, List.length_cons, List.length_nil, List.length_drop, List.length_take]; omega)) only [evs, tys, lors, Nat.reduceAdd, Nat.reduceSub, Nat.reduceMul, Nat.reducePow, Nat.reduceBEq, Nat.reduceLT, Nat.reduceLeDiff, Nat.reduceEqDiff, Int.reduceLT, Int.reduceLE, Int.reduceEq, Int.reduceNe, Int.reduceToNat, reduceCtorEq, codeKey, List.contains, List.elem, Ev.load, peek, pack, storeV, fieldAddr, field, cvB, hk, cast_succ])
    exact h1 H

theorem bestL_lt (s : List UInt8) : ∀ (l : List Nat) (a : Option Nat), (∀ i ∈ l, i < 6) → (∀ j, a = some j → j < 6) → ∀ j, bestL s l a = some j → j < 6
  | [], a, _, ha => ha
  | i :: r, a, hl, ha => by
    refine bestL_lt s r _ (fun k hk => hl k (by simp [hk])) (fun j hj => ?_)
    have hi := hl i (by simp)
    cases a with
    | none => simp only [stepD] at hj; split at hj <;> simp_all
    | some q => simp only [stepD] at hj; split at hj <;> simp_all
def unitF (t : List UInt8) (frm : Nat) : Option Nat := bestL t (List.range' frm (6 - frm)) none
def farF (t : List UInt8) (frm : Nat) : Nat := farL t (List.range' frm (6 - frm)) 0
def unitA (p frm : Nat) (t : List UInt8) : V := match unitF t frm with
  | some k => .tup [.int .i64 (k : Int), .int .i64 ((p + (nameOf k).length : Nat) : Int), .int .i64 (-1)]
  | none => .tup [.int .i64 (-1), .int .i64 (p : Int), .int .i64 ((p + farF t frm : Nat) : Int)]
theorem unitAt_cv (s : List UInt8) (p frm : Nat) (hp : p ≤ s.length) (hs : s.length < 4611686018427387904) (hf : frm ≤ 6) (y : Int) (hy : y = frm - 1) (H : Heap) : callV (CL lore) 42 [.str (bs s), .int .i64 (p : Int), .int .i64 y] H = some (unitA p frm (s.drop p), H) := by
  subst hy
  refine callV_ans (r := some _) ?_ (lore_shared 42) rfl H
  rw [call_start lore_ext42 Tryd.func42 rfl lore_okf42 (Nat.le_of_ble_eq_true rfl)]
  have e : (frm : Int) - 1 + 1 = frm := by omega
  repeat' (first | (refine cond_by (F := ans) (fun _ => ?_) (fun _ => ?_)) | (refine wayK_by (F := ans) (fun _ hb => ?_) (fun _ hb => ?_) <;> simp only [hb]) | (refine wayK_byN (F := ans) (fun _ hb => ?_) (fun _ hb => ?_) <;> simp only [hb]) | (refine wayD_by (F := ans) (fun _ hb => ?_) (fun _ hb => ?_) <;> simp only [hb]) | (refine wayD_byN (F := ans) (fun _ hb => ?_) (fun _ hb => ?_) <;> simp only [hb]) | (refine rdK_by (F := ans) (fun _ => ?_) (fun _ => ?_)) | (refine effK_by (F := ans) (fun _ => ?_) (fun _ => ?_)) | (refine effK_by2 (F := ans) (fun _ => ?_) (fun _ => ?_)) | (refine rdD_by (F := ans) (fun _ => ?_) (fun _ => ?_)) | (refine effD_by (F := ans) (fun _ => ?_) (fun _ => ?_)) | (refine effD_by2 (F := ans) (fun _ => ?_) (fun _ => ?_)) | simp -implicitDefEqProofs (disch := first | omega | (simp only [List.length_append, List.length_cons, List.length_nil, List.length_drop, List.length_take]; omega)) only [evs, tys, lors, Nat.reduceAdd, Nat.reduceSub, Nat.reduceMul, Nat.reducePow, Nat.reduceBEq, Nat.reduceLT, Nat.reduceLeDiff, Nat.reduceEqDiff, Int.reduceLT, Int.reduceLE, Int.reduceEq, Int.reduceNe, Int.reduceToNat, reduceCtorEq, codeKey, List.contains, List.elem, Ev.load, peek, pack, storeV, fieldAddr, field, cvB, e])
  refine loop42_3 s p hp hs _ _ _ _ (by rfl) _ frm _ none _ rfl (by omega) rfl (fun H' => ?_)
  cases hu : bestL (s.drop p) (List.range' frm (6 - frm)) none with
  | some k =>
    have hk6 := bestL_lt _ _ _ (fun i hi => by have := List.mem_range'_1.1 hi; omega) (fun j hj => by cases hj) k hu
    have e2 : optI (some k) = (k : Int) := rfl
    have hnl := nameOf_len k
    repeat' (first | (refine cond_by (F := ans) (fun _ => ?_) (fun _ => ?_)) | (refine wayK_by (F := ans) (fun _ hb => ?_) (fun _ hb => ?_) <;> simp only [hb]) | (refine wayK_byN (F := ans) (fun _ hb => ?_) (fun _ hb => ?_) <;> simp only [hb]) | (refine wayD_by (F := ans) (fun _ hb => ?_) (fun _ hb => ?_) <;> simp only [hb]) | (refine wayD_byN (F := ans) (fun _ hb => ?_) (fun _ hb => ?_) <;> simp only [hb]) | (refine rdK_by (F := ans) (fun _ => ?_) (fun _ => ?_)) | (refine effK_by (F := ans) (fun _ => ?_) (fun _ => ?_)) | (refine effK_by2 (F := ans) (fun _ => ?_) (fun _ => ?_)) | (refine rdD_by (F := ans) (fun _ => ?_) (fun _ => ?_)) | (refine effD_by (F := ans) (fun _ => ?_) (fun _ => ?_)) | (refine effD_by2 (F := ans) (fun _ => ?_) (fun _ => ?_)) | simp -implicitDefEqProofs (disch := first | omega | (simp only [List.length_append, List.length_cons, List.length_nil, List.length_drop, List.length_take]; omega)) only [evs, tys, lors, Nat.reduceAdd, Nat.reduceSub, Nat.reduceMul, Nat.reducePow, Nat.reduceBEq, Nat.reduceLT, Nat.reduceLeDiff, Nat.reduceEqDiff, Int.reduceLT, Int.reduceLE, Int.reduceEq, Int.reduceNe, Int.reduceToNat, reduceCtorEq, codeKey, List.contains, List.elem, Ev.load, peek, pack, storeV, fieldAddr, field, cvB, e2, unitd_cv hk6])
    · simp only [unitA, unitF, hu]; rfl
    · exfalso; omega
  | none =>
    have e2 : optI none = -1 := rfl
    repeat' (first | (refine cond_by (F := ans) (fun _ => ?_) (fun _ => ?_)) | (refine wayK_by (F := ans) (fun _ hb => ?_) (fun _ hb => ?_) <;> simp only [hb]) | (refine wayK_byN (F := ans) (fun _ hb => ?_) (fun _ hb => ?_) <;> simp only [hb]) | (refine wayD_by (F := ans) (fun _ hb => ?_) (fun _ hb => ?_) <;> simp only [hb]) | (refine wayD_byN (F := ans) (fun _ hb => ?_) (fun _ hb => ?_) <;> simp only [hb]) | (refine rdK_by (F := ans) (fun _ => ?_) (fun _ => ?_)) | (refine effK_by (F := ans) (fun _ => ?_) (fun _ => ?_)) | (refine effK_by2 (F := ans) (fun _ => ?_) (fun _ => ?_)) | (refine rdD_by (F := ans) (fun _ => ?_) (fun _ => ?_)) | (refine effD_by (F := ans) (fun _ => ?_) (fun _ => ?_)) | (refine effD_by2 (F := ans) (fun _ => ?_) (fun _ => ?_)) | simp -implicitDefEqProofs (disch := first | omega | (simp only [List.length_append, List.length_cons, List.length_nil, List.length_drop, List.length_take]; omega)) only [evs, tys, lors, Nat.reduceAdd, Nat.reduceSub, Nat.reduceMul, Nat.reducePow, Nat.reduceBEq, Nat.reduceLT, Nat.reduceLeDiff, Nat.reduceEqDiff, Int.reduceLT, Int.reduceLE, Int.reduceEq, Int.reduceNe, Int.reduceToNat, reduceCtorEq, codeKey, List.contains, List.elem, Ev.load, peek, pack, storeV, fieldAddr, field, cvB, e2, e])
    refine loop42_13 s p hp hs _ _ _ (by rfl) _ frm _ 0 _ _ rfl (by omega) rfl (by omega) (by omega) (fun H' => ?_)
    repeat' (first | (refine cond_by (F := ans) (fun _ => ?_) (fun _ => ?_)) | (refine wayK_by (F := ans) (fun _ hb => ?_) (fun _ hb => ?_) <;> simp only [hb]) | (refine wayK_byN (F := ans) (fun _ hb => ?_) (fun _ hb => ?_) <;> simp only [hb]) | (refine wayD_by (F := ans) (fun _ hb => ?_) (fun _ hb => ?_) <;> simp only [hb]) | (refine wayD_byN (F := ans) (fun _ hb => ?_) (fun _ hb => ?_) <;> simp only [hb]) | (refine rdK_by (F := ans) (fun _ => ?_) (fun _ => ?_)) | (refine effK_by (F := ans) (fun _ => ?_) (fun _ => ?_)) | (refine effK_by2 (F := ans) (fun _ => ?_) (fun _ => ?_)) | (refine rdD_by (F := ans) (fun _ => ?_) (fun _ => ?_)) | (refine effD_by (F := ans) (fun _ => ?_) (fun _ => ?_)) | (refine effD_by2 (F := ans) (fun _ => ?_) (fun _ => ?_)) | simp -implicitDefEqProofs (disch := first | omega | (simp only [List.length_append, List.length_cons, List.length_nil, List.length_drop, List.length_take]; omega)) only [evs, tys, lors, Nat.reduceAdd, Nat.reduceSub, Nat.reduceMul, Nat.reducePow, Nat.reduceBEq, Nat.reduceLT, Nat.reduceLeDiff, Nat.reduceEqDiff, Int.reduceLT, Int.reduceLE, Int.reduceEq, Int.reduceNe, Int.reduceToNat, reduceCtorEq, codeKey, List.contains, List.elem, Ev.load, peek, pack, storeV, fieldAddr, field, cvB])
    simp only [unitA, unitF, hu]; rfl
end Go.Proofs.YtgoillhmgpokoaaDoor
