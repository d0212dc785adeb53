/-
The writer: the first point; points in a row; Encode and Bits. The writer: points in a row. The writer: Encode and Bits.
-/
import Derived.Test.YtmjdcoacmmmhnaaDoorA6
namespace Go.Proofs.YtmjdcoacmmmhnaaDoor
open Go Ev
set_option linter.all false
set_option maxHeartbeats 4000000
set_option maxRecDepth 5000
attribute [local irreducible] codeL condL loopL callL callV evOps evDraw rdK effK wayK oneK wayD oneD rdD effD chks chkB res


attribute [local irreducible] WB

theorem point_nil (H : Heap) (h : Nat) (hn : NB H h (rst E0 0)) (a : Int) (ha : -9223372036854775808 ≤ a ∧ a ≤ 9223372036854775807) (v : Nat) (hv : v < 2 ^ 64) :
    callV (CL lore) 44 [.ptr h 0, .agg [.int .i64 a, .fl .f64 v]] H = some (.tup [], WB (H ++ [⟨[.int .i64 a, .fl .f64 v], 0, false, false⟩] ++ [Z0]) h (H ++ [(⟨[.int .i64 a, .fl .f64 v], 0, false, false⟩ : Box)]).length (encPt E0 a (vbN v)).1 (rst (encPt E0 a (vbN v)).2 v)) := by
  have hlt := nb_lt hn
  have hvb := vbN_lt hv
  have hg := gbits_cv v hv
  have hst : IntKind.u64.wrap (IntKind.u64.wrap a - IntKind.u64.wrap 0) = (a - 0) % 18446744073709551616 := by simp only [IntKind.wrap_u64]; omega
  have hst' : IntKind.u64.wrap (IntKind.u64.wrap a - 0) = (a - 0) % 18446744073709551616 := by simp only [IntKind.wrap_u64]; omega
  obtain ⟨z1, z2, z3⟩ := zig_facts ha
  have hzg : xorI .u64 (IntKind.u64.wrap (IntKind.u64.wrap a * 2)) (IntKind.u64.wrap (a / 9223372036854775808)) = zig a := by
    simp only [IntKind.wrap_u64]
    exact zig_eq ha
  have hn' : NB (H ++ [⟨[.int .i64 a, .fl .f64 v], 0, false, false⟩]) h (rst E0 0) := by
    unfold NB
    rw [List.getElem?_append_left hlt]
    exact hn
  have p1 := varint_nil _ h (zig a) ⟨z1, z2⟩ (rst E0 0) rfl hn'
  have lx : h < (H ++ [(⟨[.int .i64 a, .fl .f64 v], 0, false, false⟩ : Box)]).length := by simp; omega
  have lz1 : h < (H ++ [(⟨[.int .i64 a, .fl .f64 v], 0, false, false⟩ : Box)] ++ [Z0]).length := by simp; omega
  have lz2 : (H ++ [(⟨[.int .i64 a, .fl .f64 v], 0, false, false⟩ : Box)]).length < (H ++ [(⟨[.int .i64 a, .fl .f64 v], 0, false, false⟩ : Box)] ++ [Z0]).length := by simp
  have p2 := put_n (H ++ [(⟨[.int .i64 a, .fl .f64 v], 0, false, false⟩ : Box)] ++ [Z0]) h _ lz1 lz2 (by omega) (vbN v : Int) (by omega) (rst E0 0) rfl 64 64 rfl (by decide) (varF 10 (zig a)) (varF_01 _ _) (by have := varF_le 10 (zig a); omega)
  have hnew : ∀ (b : List Int) (rest : List V), (WB (H ++ [⟨[.int .i64 a, .fl .f64 v], 0, false, false⟩] ++ [Z0]) h (H ++ [(⟨[.int .i64 a, .fl .f64 v], 0, false, false⟩ : Box)]).length b rest)[H.length]? = some ⟨[.int .i64 a, .fl .f64 v], 0, false, false⟩ := fun b rest => by
    unfold WB
    rw [List.getElem?_set_ne (by simp), List.getElem?_set_ne (by omega), List.append_assoc, List.getElem?_append_right (Nat.le_refl _), Nat.sub_self]
    rfl
  have hnd : (H ++ [(⟨[.int .i64 a, .fl .f64 v], 0, false, false⟩ : Box)])[H.length]? = some ⟨[.int .i64 a, .fl .f64 v], 0, false, false⟩ := by
    rw [List.getElem?_append_right (Nat.le_refl _), Nat.sub_self]; rfl
  have w1 := fun (b : List Int) (rest : List V) => wb_h (bits := b) (rest := rest) lz1 lz2 (by omega)
  have w2 := fun (b : List Int) (rest rest' : List V) => wb_sh (bits := b) (rest := rest) lz1 lz2 (by omega) rest'
  refine callV_sh rfl ?_
  unfold NB at hn'
  simp only [encPt, E0, rst] at p1 p2 hn' ⊢
  have ez : ((0 : Nat) : Int) = 0 := rfl
  have eo : ((1 : Nat) : Int) = 1 := rfl
  simp only [ez, eo] at p1 p2 hn' ⊢
  generalize (H ++ [(⟨[.int .i64 a, .fl .f64 v], 0, false, false⟩ : Box)]).length = rr at *
  rw [call_start lore_ext44 Tryd.func44 rfl lore_okf44 (Nat.le_of_ble_eq_true rfl)]
  repeat' (first | (refine cond_by (F := res) (fun _ => ?_) (fun _ => ?_)) | (refine wayK_by (F := res) (fun _ hb_ => ?_) (fun _ hb_ => ?_) <;> simp only [hb_]) | (refine wayK_byN (F := res) (fun _ hb_ => ?_) (fun _ hb_ => ?_) <;> simp only [hb_]) | (refine wayD_by (F := res) (fun _ hb_ => ?_) (fun _ hb_ => ?_) <;> simp only [hb_]) | (refine wayD_byN (F := res) (fun _ hb_ => ?_) (fun _ hb_ => ?_) <;> simp only [hb_]) | (refine rdK_by (F := res) (fun _ => ?_) (fun _ => ?_)) | (refine effK_by (F := res) (fun _ => ?_) (fun _ => ?_)) | (refine effK_by2 (F := res) (fun _ => ?_) (fun _ => ?_)) | (refine rdD_by (F := res) (fun _ => ?_) (fun _ => ?_)) | (refine effD_by (F := res) (fun _ => ?_) (fun _ => ?_)) | (refine effD_by2 (F := res) (fun _ => ?_) (fun _ => ?_)) | simp -implicitDefEqProofs (disch := first | omega | (simp only [List.length_append, List.length_cons, List.length_nil, List.length_drop, List.length_take]; omega)) only [evs, tys, lors, Nat.reduceAdd, Nat.reduceSub, Nat.reduceMul, Nat.reducePow, Nat.reduceBEq, Nat.reduceLT, Nat.reduceLeDiff, Nat.reduceEqDiff, Int.reduceLT, Int.reduceLE, Int.reduceEq, Int.reduceNe, Int.reduceToNat, Int.reduceAdd, Int.reduceSub, Int.reduceMul, Int.reducePow, Int.reduceDiv, Int.reduceMod, Int.reduceNeg, reduceCtorEq, codeKey, List.contains, List.elem, Ev.load, peek, pack, storeV, fieldAddr, field, cvB, w64, hg, hst, hst', hzg, hn', hnd, p1, p2, hnew, w1, w2, bits1, shr_any, decide_true, decide_false])
  all_goals first | exact res_eq | trace_state


def encD (l : List (Int × Nat)) : List V := l.map fun p => .agg [.int .i64 p.1, .fl .f64 p.2]
theorem encD_len (l : List (Int × Nat)) : (encD l).length = l.length := List.length_map ..
theorem encD_get (a : List (Int × Nat)) (p : Int × Nat) (b : List (Int × Nat)) : (encD (a ++ p :: b))[a.length]? = some (.agg [.int .i64 p.1, .fl .f64 p.2]) := by
  unfold encD
  rw [List.getElem?_map, List.getElem?_append_right (Nat.le_refl _), Nat.sub_self]
  rfl
abbrev DotsOk (l : List (Int × Nat)) : Prop := ∀ p ∈ l, (-9223372036854775808 ≤ p.1 ∧ p.1 ≤ 9223372036854775807) ∧ p.2 < 2 ^ 64
def esL (vb : Nat → Nat) : ES → List (Int × Nat) → ES
  | s, [] => s
  | s, p :: r => esL vb (encPt s p.1 (vb p.2)).2 r
/-- The first point that isn't behind the one ahead of it. -/
def flt : Int → Nat → List (Int × Nat) → Option Nat
  | _, _, [] => none
  | a, k, p :: r => if p.1 ≤ a then some k else flt p.1 (k + 1) r
theorem xorB_le (x : Nat) (f : Fr) : (xorB x f).1.length ≤ 80 := by
  unfold xorB
  split
  · simp [numB_len]
  · split <;> simp only [List.length_append, numB_len] <;> omega
theorem encPt_le (s : ES) (a : Int) (v : Nat) : (encPt s a v).1.length ≤ 160 := by
  unfold encPt
  simp only
  split
  · have := varF_le 10 (zig a); rw [List.length_append, numB_len]; omega
  · have h1 := varF_le 10 ((a - s.at_) % 18446744073709551616)
    have h2 := xorB_le (v ^^^ s.value) s.fr
    rw [List.length_append]; omega
  · have h1 := difB_le (wrapS ((a - s.at_) % 18446744073709551616 - s.step))
    have h2 := xorB_le (v ^^^ s.value) s.fr
    rw [List.length_append]; omega
theorem encPt_st {s : ES} {a : Int} {v : Nat} (ha : -9223372036854775808 ≤ a ∧ a ≤ 9223372036854775807) (hv : v < 2 ^ 64) (hs : ESOk s) (hf : FrOk s.fr) : (encPt s a v).2.i = s.i + 1 ∧ (encPt s a v).2.at_ = a ∧ ESOk (encPt s a v).2 ∧ FrOk (encPt s a v).2.fr := by
  obtain ⟨i, sat, st, val, fr⟩ := s
  have hx : v ^^^ val < 2 ^ 64 := Nat.xor_lt_two_pow hv hs.2.2
  unfold encPt
  match i with
  | 0 => exact ⟨rfl, rfl, ⟨ha, by simp only; omega, hv⟩, hf⟩
  | 1 => exact ⟨rfl, rfl, ⟨ha, by simp only; omega, hv⟩, xorB_ok hx hf⟩
  | i + 2 => exact ⟨rfl, rfl, ⟨ha, by simp only; omega, hv⟩, xorB_ok hx hf⟩
theorem loopW (l : List (Int × Nat)) (c : Bool) (hd : DotsOk l) (hlen : l.length ≤ 65535) (a : Code) (ha : loopIn Tryd.prog 23 5 = some a) :
    ∀ (xs ad : List (Int × Nat)) (pa : Int × Nat) (H : Heap) (r : Nat) (bits : List Int) (s : ES) (u : Nat) (z : Int), l = ad ++ pa :: xs → s.i = ad.length + 1 → z = (ad.length : Int) + 1 → 0 < H.length → r < H.length → 0 ≠ r → ESOk s → FrOk s.fr → s.at_ = pa.1 → Bits01 bits → bits.length ≤ 200 * (ad.length + 1) →
    (flt pa.1 (ad.length + 1) xs = none → ∃ H' r' u', 0 < List.length H' ∧ r' < H'.length ∧ 0 ≠ r' ∧ ∀ K : Kont, res (loopL lore 23 a (Sl 39 .wild [(0, .sl (encD l) 2 c), (2, .nilp), (3, .int .i64 0), (4, .int .i64 0), (5, .ptr 0 0), (13, .sl (encD l) 2 c), (14, .int .i64 l.length), (15, .int .i64 z)]) (WB H 0 r bits (rst s u)) K) = res (K (.exit 0) (Sl 39 .wild [(0, .sl (encD l) 2 c), (2, .nilp), (3, .int .i64 0), (4, .int .i64 0), (5, .ptr 0 0), (13, .sl (encD l) 2 c), (14, .int .i64 l.length), (15, .int .i64 l.length)]) (WB H' 0 r' (bits ++ encL vbN s xs) (rst (esL vbN s xs) u')))) ∧
    (∀ j, flt pa.1 (ad.length + 1) xs = some j → ∃ H' k, ∀ K : Kont, res (loopL lore 23 a (Sl 39 .wild [(0, .sl (encD l) 2 c), (2, .nilp), (3, .int .i64 0), (4, .int .i64 0), (5, .ptr 0 0), (13, .sl (encD l) 2 c), (14, .int .i64 l.length), (15, .int .i64 z)]) (WB H 0 r bits (rst s u)) K) = res (K .ret (Sl 39 .wild [(0, .sl (encD l) 2 c), (2, .nilp), (3, .int .i64 190), (4, .int .i64 (j : Nat)), (5, .ptr 0 0), (13, .sl (encD l) 2 c), (14, .int .i64 l.length), (15, .int .i64 k)]) H')) := by
  have hk := loop_key ha
  simp only [loopIn, Tryd.func23, Tryd.f23, loopAt, Option.bind_some, codeKey, if_true, Option.some.injEq, Nat.reduceEqDiff, if_false] at ha
  intro xs
  induction xs with
  | nil =>
    intro ad pa H r bits s u z hl hi hz h1 h2 h3 hs hf hat hb hbl
    refine ⟨fun _ => ⟨H, r, u, h1, h2, h3, fun K => ?_⟩, fun j hj => by simp [flt] at hj⟩
    have hll : (l.length : Int) = (ad.length : Int) + 1 := by rw [hl]; simp
    have hn : ¬ (ad.length : Int) + 1 < (ad.length : Int) + 1 := by omega
    subst hz
    rw [hll]
    simp only [encL, esL, List.append_nil]
    rw [loopL_step' ha]
    repeat' (first | (refine cond_by (F := res) (fun _ => ?_) (fun _ => ?_)) | (refine wayK_by (F := res) (fun _ hb_ => ?_) (fun _ hb_ => ?_) <;> simp only [hb_]) | (refine wayK_byN (F := res) (fun _ hb_ => ?_) (fun _ hb_ => ?_) <;> simp only [hb_]) | (refine wayD_by (F := res) (fun _ hb_ => ?_) (fun _ hb_ => ?_) <;> simp only [hb_]) | (refine wayD_byN (F := res) (fun _ hb_ => ?_) (fun _ hb_ => ?_) <;> simp only [hb_]) | (refine rdK_by (F := res) (fun _ => ?_) (fun _ => ?_)) | (refine effK_by (F := res) (fun _ => ?_) (fun _ => ?_)) | (refine effK_by2 (F := res) (fun _ => ?_) (fun _ => ?_)) | (refine rdD_by (F := res) (fun _ => ?_) (fun _ => ?_)) | (refine effD_by (F := res) (fun _ => ?_) (fun _ => ?_)) | (refine effD_by2 (F := res) (fun _ => ?_) (fun _ => ?_)) | simp -implicitDefEqProofs (disch := first | omega | (simp only [List.length_append, List.length_cons, List.length_nil, List.length_drop, List.length_take]; omega)) only [evs, tys, lors, Nat.reduceAdd, Nat.reduceSub, Nat.reduceMul, Nat.reducePow, Nat.reduceBEq, Nat.reduceLT, Nat.reduceLeDiff, Nat.reduceEqDiff, Int.reduceLT, Int.reduceLE, Int.reduceEq, Int.reduceNe, Int.reduceToNat, Int.reduceAdd, Int.reduceSub, Int.reduceMul, Int.reducePow, Int.reduceDiv, Int.reduceMod, Int.reduceNeg, reduceCtorEq, codeKey, List.contains, List.elem, Ev.load, peek, pack, storeV, fieldAddr, field, cvB, hk, hn, decide_false])
  | cons p xs ih =>
    intro ad pa H r bits s u z hl hi hz h1 h2 h3 hs hf hat hb hbl
    have hl2 : l = (ad ++ [pa]) ++ p :: xs := by rw [hl, List.append_assoc]; rfl
    obtain ⟨hp1, hp2⟩ := hd p (by rw [hl2]; simp)
    have hll : l.length = ad.length + 1 + (xs.length + 1) := by rw [hl2]; simp; omega
    have hlt : z < (l.length : Int) := by omega
    have e1 : (encD l)[z.toNat]? = some (.agg [.int .i64 p.1, .fl .f64 p.2]) := by
      rw [hz, show ((ad.length : Int) + 1).toNat = (ad ++ [pa]).length by simp, hl2]
      exact encD_get _ p xs
    have e0 : (encD l)[(z - 1).toNat]? = some (.agg [.int .i64 pa.1, .fl .f64 pa.2]) := by
      rw [hz, show ((ad.length : Int) + 1 - 1).toNat = ad.length by omega, hl]
      exact encD_get ad pa _
    have e4 := encD_len l
    have hz0 : 0 ≤ z ∧ z ≤ 100000 := by omega
    have hzp : (0 : Int) < z := by omega
    by_cases hle : p.1 ≤ pa.1
    · have hfl : flt pa.1 (ad.length + 1) (p :: xs) = some (ad.length + 1) := by rw [flt, if_pos hle]
      refine ⟨fun h => by (rw [hfl] at h; exact absurd h (by simp)), fun j hj => ?_⟩
      rw [hfl] at hj
      cases hj
      have hzj : z = ((ad.length + 1 : Nat) : Int) := by omega
      refine ⟨WB (H ++ [⟨[.int .i64 p.1, .fl .f64 p.2], 0, false, false⟩]) 0 r bits (rst s u), z, fun K => ?_⟩
      rw [← hzj]
      rw [loopL_step' ha]
      repeat' (first | (refine cond_by (F := res) (fun _ => ?_) (fun _ => ?_)) | (refine wayK_by (F := res) (fun _ hb_ => ?_) (fun _ hb_ => ?_) <;> simp only [hb_]) | (refine wayK_byN (F := res) (fun _ hb_ => ?_) (fun _ hb_ => ?_) <;> simp only [hb_]) | (refine wayD_by (F := res) (fun _ hb_ => ?_) (fun _ hb_ => ?_) <;> simp only [hb_]) | (refine wayD_byN (F := res) (fun _ hb_ => ?_) (fun _ hb_ => ?_) <;> simp only [hb_]) | (refine rdK_by (F := res) (fun _ => ?_) (fun _ => ?_)) | (refine effK_by (F := res) (fun _ => ?_) (fun _ => ?_)) | (refine effK_by2 (F := res) (fun _ => ?_) (fun _ => ?_)) | (refine rdD_by (F := res) (fun _ => ?_) (fun _ => ?_)) | (refine effD_by (F := res) (fun _ => ?_) (fun _ => ?_)) | (refine effD_by2 (F := res) (fun _ => ?_) (fun _ => ?_)) | simp -implicitDefEqProofs (disch := first | omega | (simp only [List.length_append, List.length_cons, List.length_nil, List.length_drop, List.length_take]; omega)) only [evs, tys, lors, Nat.reduceAdd, Nat.reduceSub, Nat.reduceMul, Nat.reducePow, Nat.reduceBEq, Nat.reduceLT, Nat.reduceLeDiff, Nat.reduceEqDiff, Int.reduceLT, Int.reduceLE, Int.reduceEq, Int.reduceNe, Int.reduceToNat, Int.reduceAdd, Int.reduceSub, Int.reduceMul, Int.reducePow, Int.reduceDiv, Int.reduceMod, Int.reduceNeg, reduceCtorEq, codeKey, List.contains, List.elem, Ev.load, peek, pack, storeV, fieldAddr, field, cvB, hk, hlt, hzp, hle, e0, e1, e4, wb_app, wb_len, wb_new, wb_snew, decide_true, decide_false])
      all_goals rfl
    · have hfl : flt pa.1 (ad.length + 1) (p :: xs) = flt p.1 ((ad ++ [pa]).length + 1) xs := by rw [flt, if_neg hle]; simp
      have lB : ∀ b : Box, 0 < (H ++ [b]).length ∧ r < (H ++ [b]).length := fun b => by simp; omega
      obtain ⟨X, hpt⟩ := point_cv (H ++ [⟨[.int .i64 p.1, .fl .f64 p.2], 0, false, false⟩]) 0 r (lB _).1 (lB _).2 h3 s u (by omega) (by omega) hs hf p.1 hp1 p.2 hp2 bits hb (by omega)
      have hst := encPt_st hp1 (vbN_lt hp2) hs hf
      have hpl := encPt_le s p.1 (vbN p.2)
      have lX : 0 < (H ++ [(⟨[.int .i64 p.1, .fl .f64 p.2], 0, false, false⟩ : Box)] ++ X).length ∧ r < (H ++ [(⟨[.int .i64 p.1, .fl .f64 p.2], 0, false, false⟩ : Box)] ++ X).length := by simp; omega
      obtain ⟨ih1, ih2⟩ := ih (ad ++ [pa]) p (H ++ [⟨[.int .i64 p.1, .fl .f64 p.2], 0, false, false⟩] ++ X) r (bits ++ (encPt s p.1 (vbN p.2)).1) (encPt s p.1 (vbN p.2)).2 p.2 (z + 1) hl2 (by rw [hst.1, hi]; simp) (by rw [hz]; simp) lX.1 lX.2 h3 hst.2.2.1 hst.2.2.2 hst.2.1 (bits01_app hb (encPt_01 _ _ _)) (by simp only [List.length_append, List.length_cons, List.length_nil]; omega)
      rw [← hfl] at ih1 ih2
      have step : ∀ K : Kont, res (loopL lore 23 a (Sl 39 .wild [(0, .sl (encD l) 2 c), (2, .nilp), (3, .int .i64 0), (4, .int .i64 0), (5, .ptr 0 0), (13, .sl (encD l) 2 c), (14, .int .i64 l.length), (15, .int .i64 z)]) (WB H 0 r bits (rst s u)) K) = res (loopL lore 23 a (Sl 39 .wild [(0, .sl (encD l) 2 c), (2, .nilp), (3, .int .i64 0), (4, .int .i64 0), (5, .ptr 0 0), (13, .sl (encD l) 2 c), (14, .int .i64 l.length), (15, .int .i64 (z + 1))]) (WB (H ++ [⟨[.int .i64 p.1, .fl .f64 p.2], 0, false, false⟩] ++ X) 0 r (bits ++ (encPt s p.1 (vbN p.2)).1) (rst (encPt s p.1 (vbN p.2)).2 p.2)) K) := by
        intro K
        clear ih ih1 ih2
        generalize rst (encPt s p.1 (vbN p.2)).2 p.2 = rs2 at *
        generalize rst s u = rs1 at *
        rw [loopL_step' ha]
        repeat' (first | (refine cond_by (F := res) (fun _ => ?_) (fun _ => ?_)) | (refine wayK_by (F := res) (fun _ hb_ => ?_) (fun _ hb_ => ?_) <;> simp only [hb_]) | (refine wayK_byN (F := res) (fun _ hb_ => ?_) (fun _ hb_ => ?_) <;> simp only [hb_]) | (refine wayD_by (F := res) (fun _ hb_ => ?_) (fun _ hb_ => ?_) <;> simp only [hb_]) | (refine wayD_byN (F := res) (fun _ hb_ => ?_) (fun _ hb_ => ?_) <;> simp only [hb_]) | (refine rdK_by (F := res) (fun _ => ?_) (fun _ => ?_)) | (refine effK_by (F := res) (fun _ => ?_) (fun _ => ?_)) | (refine effK_by2 (F := res) (fun _ => ?_) (fun _ => ?_)) | (refine rdD_by (F := res) (fun _ => ?_) (fun _ => ?_)) | (refine effD_by (F := res) (fun _ => ?_) (fun _ => ?_)) | (refine effD_by2 (F := res) (fun _ => ?_) (fun _ => ?_)) | simp -implicitDefEqProofs (disch := first | omega | (simp only [List.length_append, List.length_cons, List.length_nil, List.length_drop, List.length_take]; omega)) only [evs, tys, lors, Nat.reduceAdd, Nat.reduceSub, Nat.reduceMul, Nat.reducePow, Nat.reduceBEq, Nat.reduceLT, Nat.reduceLeDiff, Nat.reduceEqDiff, Int.reduceLT, Int.reduceLE, Int.reduceEq, Int.reduceNe, Int.reduceToNat, Int.reduceAdd, Int.reduceSub, Int.reduceMul, Int.reducePow, Int.reduceDiv, Int.reduceMod, Int.reduceNeg, reduceCtorEq, codeKey, List.contains, List.elem, Ev.load, peek, pack, storeV, fieldAddr, field, cvB, hk, hlt, hzp, hle, e0, e1, e4, hpt, wb_app, wb_len, wb_new, wb_snew, decide_true, decide_false])
      refine ⟨fun hn => ?_, fun j hj => ?_⟩
      · obtain ⟨H', r', u', q1, q2, q3, q4⟩ := ih1 hn
        exact ⟨H', r', u', q1, q2, q3, fun K => by rw [step, q4, encL, esL, List.append_assoc]⟩
      · obtain ⟨H', k, q4⟩ := ih2 j hj
        exact ⟨H', k, fun K => by rw [step, q4]⟩


def fltL : List (Int × Nat) → Option Nat
  | [] => none
  | p :: r => flt p.1 1 r
theorem plains_enc8 : ∀ l, plains (enc8 l) = true
  | [] => rfl
  | x :: r => by
    show plains (.int .u8 x :: enc8 r) = true
    simp only [plains, V.plain, plains_enc8 r, Bool.and_self]
theorem wb_r {H : Heap} {h r : Nat} {bits : List Int} {rest : List V} (h1 : h < H.length) (h2 : r < H.length) (h3 : h ≠ r) : (WB H h r bits rest)[r]? = some ⟨enc8 (packB bits), 1, true, false⟩ := by
  unfold WB
  exact two_r h1 h2 h3 _ _
theorem src_row {H : Heap} {r tot : Nat} {cs : List V} (hH : H[r]? = some ⟨cs, 1, true, false⟩) (hl : cs.length = tot) : srcV Tryd.prog H 1 23 (.row r tot) = some cs := by
  simp only [srcV, Tryd.underlying23, szOk, hH, els, beq_self_eq_true, if_true]
  rw [if_pos ⟨Nat.zero_lt_one, hl⟩]
theorem src_nils {H : Heap} : srcV Tryd.prog H 1 23 .nils = some [] := by
  simp only [srcV, Tryd.underlying23, szOk, els, if_true]
theorem app_sl {H : Heap} {es ys : List V} (hy : ys ≠ []) (hp : plains ys = true) (hl : es.length + ys.length ≤ 100000000000) : appendV Tryd.prog H 23 (.sl es 1 true) ys = some (.row H.length (es.length + ys.length), H ++ [⟨es ++ ys, 1, true, false⟩]) := by
  have hz : sizeT Tryd.prog 5 = 1 := sz5
  have hbt := by5
  have e : maxLen47 = 140737488355328 := by decide
  have hm : (es.length + ys.length) * bytesT Tryd.prog 5 ≤ maxLen47 := by
    have := Nat.mul_le_mul hl hbt
    omega
  cases ys with
  | nil => exact absurd rfl hy
  | cons y ys =>
    simp only [appendV, Tryd.underlying23, el5, if_true, hz]
    rw [if_pos ⟨trivial, hm, by omega⟩, hp]
theorem app_sl0 {H : Heap} {es : List V} : appendV Tryd.prog H 23 (.sl es 1 true) [] = some (.sl es 1 true, H) := by
  simp only [appendV, Tryd.underlying23, el5, if_true]
/-- A chunk's bytes. -/
def bytesL (l : List (Int × Nat)) : List Int := ((l.length / 256 : Nat) : Int) :: ((l.length % 256 : Nat) : Int) :: packB (encL vbN E0 l)
theorem esL_i (vb : Nat → Nat) (hvb : ∀ v, v < 2 ^ 64 → vb v < 2 ^ 64) : ∀ (l : List (Int × Nat)) (s : ES), DotsOk l → ESOk s → FrOk s.fr → (esL vb s l).i = s.i + l.length
  | [], s, _, _, _ => rfl
  | p :: r, s, hd, hs, hf => by
    obtain ⟨hp1, hp2⟩ := hd p (by simp)
    have hst := encPt_st hp1 (hvb _ hp2) hs hf
    rw [esL, esL_i vb hvb r _ (fun q hq => hd q (by simp [hq])) hst.2.2.1 hst.2.2.2, hst.1, List.length_cons]
    omega
theorem E0_ok : ESOk E0 ∧ FrOk E0.fr := by
  refine ⟨⟨by decide, by decide, by decide⟩, fun h => by cases h⟩
theorem encL_ne {l : List (Int × Nat)} (h : l ≠ []) : encL vbN E0 l ≠ [] := by
  cases l with
  | nil => exact absurd rfl h
  | cons p r =>
    intro he
    have := congrArg List.length he
    simp only [encL, encPt, E0, List.length_append, numB_len, List.length_nil] at this
    omega
theorem encL_le (vb : Nat → Nat) : ∀ (l : List (Int × Nat)) (s : ES), (encL vb s l).length ≤ 160 * l.length
  | [], s => by simp [encL]
  | p :: r, s => by
    have h1 := encL_le vb r (encPt s p.1 (vb p.2)).2
    have h2 := encPt_le s p.1 (vb p.2)
    rw [encL, List.length_append, List.length_cons]
    omega
abbrev NBX : Box := ⟨.nils :: .int .i64 0 :: rst E0 0, 0, false, false⟩
theorem written_cv (l : List (Int × Nat)) (c : Bool) (hd : DotsOk l) :
    (65535 < l.length → callV (CL lore) 23 [.sl (encD l) 2 c] [] = some (.tup [.nilp, .int .i64 3, .int .i64 65535], [])) ∧
    (l = [] → callV (CL lore) 23 [.sl (encD l) 2 c] [] = some (.tup [.ptr 0 0, .int .i64 0, .int .i64 0], [NBX])) ∧
    (l.length ≤ 65535 → l ≠ [] → fltL l = none → ∃ H r u, 0 < List.length H ∧ r < H.length ∧ 0 ≠ r ∧ callV (CL lore) 23 [.sl (encD l) 2 c] [] = some (.tup [.ptr 0 0, .int .i64 0, .int .i64 0], WB H 0 r (encL vbN E0 l) (rst (esL vbN E0 l) u))) ∧
    (l.length ≤ 65535 → ∀ j, fltL l = some j → ∃ H, callV (CL lore) 23 [.sl (encD l) 2 c] [] = some (.tup [.nilp, .int .i64 190, .int .i64 (j : Nat)], H)) := by
  have e4 := encD_len l
  refine ⟨fun h => callV_sh rfl ?_, fun h => callV_sh rfl ?_, fun h hne hf => ?_, fun h j hf => ?_⟩
  · have hlt : (65535 : Int) < (l.length : Int) := by omega
    rw [call_start lore_ext23 Tryd.func23 rfl lore_okf23 (Nat.le_of_ble_eq_true rfl)]
    repeat' (first | (refine cond_by (F := res) (fun _ => ?_) (fun _ => ?_)) | (refine wayK_by (F := res) (fun _ hb_ => ?_) (fun _ hb_ => ?_) <;> simp only [hb_]) | (refine wayK_byN (F := res) (fun _ hb_ => ?_) (fun _ hb_ => ?_) <;> simp only [hb_]) | (refine wayD_by (F := res) (fun _ hb_ => ?_) (fun _ hb_ => ?_) <;> simp only [hb_]) | (refine wayD_byN (F := res) (fun _ hb_ => ?_) (fun _ hb_ => ?_) <;> simp only [hb_]) | (refine rdK_by (F := res) (fun _ => ?_) (fun _ => ?_)) | (refine effK_by (F := res) (fun _ => ?_) (fun _ => ?_)) | (refine effK_by2 (F := res) (fun _ => ?_) (fun _ => ?_)) | (refine rdD_by (F := res) (fun _ => ?_) (fun _ => ?_)) | (refine effD_by (F := res) (fun _ => ?_) (fun _ => ?_)) | (refine effD_by2 (F := res) (fun _ => ?_) (fun _ => ?_)) | simp -implicitDefEqProofs (disch := first | omega | (simp only [List.length_append, List.length_cons, List.length_nil, List.length_drop, List.length_take]; omega)) only [evs, tys, lors, Nat.reduceAdd, Nat.reduceSub, Nat.reduceMul, Nat.reducePow, Nat.reduceBEq, Nat.reduceLT, Nat.reduceLeDiff, Nat.reduceEqDiff, Int.reduceLT, Int.reduceLE, Int.reduceEq, Int.reduceNe, Int.reduceToNat, Int.reduceAdd, Int.reduceSub, Int.reduceMul, Int.reducePow, Int.reduceDiv, Int.reduceMod, Int.reduceNeg, reduceCtorEq, codeKey, List.contains, List.elem, Ev.load, peek, pack, storeV, fieldAddr, field, cvB, e4, hlt, decide_true])
    all_goals first | exact res_eq | trace_state
  · subst h
    have e0 : (encD []).length = 0 := rfl
    rw [call_start lore_ext23 Tryd.func23 rfl lore_okf23 (Nat.le_of_ble_eq_true rfl)]
    repeat' (first | (refine cond_by (F := res) (fun _ => ?_) (fun _ => ?_)) | (refine wayK_by (F := res) (fun _ hb_ => ?_) (fun _ hb_ => ?_) <;> simp only [hb_]) | (refine wayK_byN (F := res) (fun _ hb_ => ?_) (fun _ hb_ => ?_) <;> simp only [hb_]) | (refine wayD_by (F := res) (fun _ hb_ => ?_) (fun _ hb_ => ?_) <;> simp only [hb_]) | (refine wayD_byN (F := res) (fun _ hb_ => ?_) (fun _ hb_ => ?_) <;> simp only [hb_]) | (refine rdK_by (F := res) (fun _ => ?_) (fun _ => ?_)) | (refine effK_by (F := res) (fun _ => ?_) (fun _ => ?_)) | (refine effK_by2 (F := res) (fun _ => ?_) (fun _ => ?_)) | (refine rdD_by (F := res) (fun _ => ?_) (fun _ => ?_)) | (refine effD_by (F := res) (fun _ => ?_) (fun _ => ?_)) | (refine effD_by2 (F := res) (fun _ => ?_) (fun _ => ?_)) | simp -implicitDefEqProofs (disch := first | omega | (simp only [List.length_append, List.length_cons, List.length_nil, List.length_drop, List.length_take]; omega)) only [evs, tys, lors, Nat.reduceAdd, Nat.reduceSub, Nat.reduceMul, Nat.reducePow, Nat.reduceBEq, Nat.reduceLT, Nat.reduceLeDiff, Nat.reduceEqDiff, Int.reduceLT, Int.reduceLE, Int.reduceEq, Int.reduceNe, Int.reduceToNat, Int.reduceAdd, Int.reduceSub, Int.reduceMul, Int.reducePow, Int.reduceDiv, Int.reduceMod, Int.reduceNeg, reduceCtorEq, codeKey, List.contains, List.elem, Ev.load, peek, pack, storeV, fieldAddr, field, cvB, e0])
    rw [loopL_step' rfl]
    repeat' (first | (refine cond_by (F := res) (fun _ => ?_) (fun _ => ?_)) | (refine wayK_by (F := res) (fun _ hb_ => ?_) (fun _ hb_ => ?_) <;> simp only [hb_]) | (refine wayK_byN (F := res) (fun _ hb_ => ?_) (fun _ hb_ => ?_) <;> simp only [hb_]) | (refine wayD_by (F := res) (fun _ hb_ => ?_) (fun _ hb_ => ?_) <;> simp only [hb_]) | (refine wayD_byN (F := res) (fun _ hb_ => ?_) (fun _ hb_ => ?_) <;> simp only [hb_]) | (refine rdK_by (F := res) (fun _ => ?_) (fun _ => ?_)) | (refine effK_by (F := res) (fun _ => ?_) (fun _ => ?_)) | (refine effK_by2 (F := res) (fun _ => ?_) (fun _ => ?_)) | (refine rdD_by (F := res) (fun _ => ?_) (fun _ => ?_)) | (refine effD_by (F := res) (fun _ => ?_) (fun _ => ?_)) | (refine effD_by2 (F := res) (fun _ => ?_) (fun _ => ?_)) | simp -implicitDefEqProofs (disch := first | omega | (simp only [List.length_append, List.length_cons, List.length_nil, List.length_drop, List.length_take]; omega)) only [evs, tys, lors, Nat.reduceAdd, Nat.reduceSub, Nat.reduceMul, Nat.reducePow, Nat.reduceBEq, Nat.reduceLT, Nat.reduceLeDiff, Nat.reduceEqDiff, Int.reduceLT, Int.reduceLE, Int.reduceEq, Int.reduceNe, Int.reduceToNat, Int.reduceAdd, Int.reduceSub, Int.reduceMul, Int.reducePow, Int.reduceDiv, Int.reduceMod, Int.reduceNeg, reduceCtorEq, codeKey, List.contains, List.elem, Ev.load, peek, pack, storeV, fieldAddr, field, cvB, e0])
    all_goals first | exact res_eq | trace_state
  · cases l with
    | nil => exact absurd rfl hne
    | cons p xs =>
      obtain ⟨hp1, hp2⟩ := hd p (by simp)
      have hnb : NB [NBX, ⟨[.int .i64 p.1, .fl .f64 p.2], 0, false, false⟩] 0 (rst E0 0) := rfl
      have hpt := point_nil _ 0 hnb p.1 hp1 p.2 hp2
      have hst := encPt_st hp1 (vbN_lt hp2) E0_ok.1 E0_ok.2
      have hle := encPt_le E0 p.1 (vbN p.2)
      have hlt : ¬ (65535 : Int) < ((xs.length + 1 : Nat) : Int) := by simp at h; omega
      have hl0 : (0 : Int) < ((xs.length + 1 : Nat) : Int) := by omega
      rw [List.length_cons] at e4
      have e1 : (encD (p :: xs))[0]? = some (.agg [.int .i64 p.1, .fl .f64 p.2]) := rfl
      have hpt' : callV (CL lore) 44 [.ptr 0 0, .agg [.int .i64 p.1, .fl .f64 p.2]] [⟨[.nils, .int .i64 0, .int .i64 0, .int .i64 0, .fl .f64 0, .int .u64 0, .int .u64 0, .bool false, .int .i64 0, .int .i64 0], 0, false, false⟩, ⟨[.int .i64 p.1, .fl .f64 p.2], 0, false, false⟩] = some (.tup [], WB [NBX, ⟨[.int .i64 p.1, .fl .f64 p.2], 0, false, false⟩, ⟨[.int .i64 p.1, .fl .f64 p.2], 0, false, false⟩, Z0] 0 3 (encPt E0 p.1 (vbN p.2)).1 (rst (encPt E0 p.1 (vbN p.2)).2 p.2)) := hpt
      obtain ⟨a, ha⟩ : ∃ a, loopIn Tryd.prog 23 5 = some a := ⟨_, rfl⟩
      have hW := loopW (p :: xs) c hd h a ha xs [] p [NBX, ⟨[.int .i64 p.1, .fl .f64 p.2], 0, false, false⟩, ⟨[.int .i64 p.1, .fl .f64 p.2], 0, false, false⟩, Z0] 3 (encPt E0 p.1 (vbN p.2)).1 (encPt E0 p.1 (vbN p.2)).2 p.2 1 rfl hst.1 rfl (by simp) (by simp) (by simp) hst.2.2.1 hst.2.2.2 hst.2.1 (encPt_01 _ _ _) (by simp only [List.length_nil]; omega)
      obtain ⟨H', r', u', q1, q2, q3, q4⟩ := hW.1 hf
      refine ⟨H', r', u', q1, q2, q3, callV_sh rfl ?_⟩
      rw [encL, esL]
      generalize rst (encPt E0 p.1 (vbN p.2)).2 p.2 = rs at *
      generalize rst (esL vbN (encPt E0 p.1 (vbN p.2)).2 xs) u' = rs2 at *
      rw [List.length_cons] at q4
      rw [call_start lore_ext23 Tryd.func23 rfl lore_okf23 (Nat.le_of_ble_eq_true rfl)]
      repeat' (first | (refine cond_by (F := res) (fun _ => ?_) (fun _ => ?_)) | (refine wayK_by (F := res) (fun _ hb_ => ?_) (fun _ hb_ => ?_) <;> simp only [hb_]) | (refine wayK_byN (F := res) (fun _ hb_ => ?_) (fun _ hb_ => ?_) <;> simp only [hb_]) | (refine wayD_by (F := res) (fun _ hb_ => ?_) (fun _ hb_ => ?_) <;> simp only [hb_]) | (refine wayD_byN (F := res) (fun _ hb_ => ?_) (fun _ hb_ => ?_) <;> simp only [hb_]) | (refine rdK_by (F := res) (fun _ => ?_) (fun _ => ?_)) | (refine effK_by (F := res) (fun _ => ?_) (fun _ => ?_)) | (refine effK_by2 (F := res) (fun _ => ?_) (fun _ => ?_)) | (refine rdD_by (F := res) (fun _ => ?_) (fun _ => ?_)) | (refine effD_by (F := res) (fun _ => ?_) (fun _ => ?_)) | (refine effD_by2 (F := res) (fun _ => ?_) (fun _ => ?_)) | simp -implicitDefEqProofs (disch := first | omega | (simp only [List.length_append, List.length_cons, List.length_nil, List.length_drop, List.length_take]; omega)) only [evs, tys, lors, Nat.reduceAdd, Nat.reduceSub, Nat.reduceMul, Nat.reducePow, Nat.reduceBEq, Nat.reduceLT, Nat.reduceLeDiff, Nat.reduceEqDiff, Int.reduceLT, Int.reduceLE, Int.reduceEq, Int.reduceNe, Int.reduceToNat, Int.reduceAdd, Int.reduceSub, Int.reduceMul, Int.reducePow, Int.reduceDiv, Int.reduceMod, Int.reduceNeg, reduceCtorEq, codeKey, List.contains, List.elem, Ev.load, peek, pack, storeV, fieldAddr, field, cvB, e4, hlt, decide_false])
      obtain rfl : a = _ := (Option.some.inj ((show loopIn Tryd.prog 23 5 = some _ from rfl).symm.trans ha)).symm
      rw [loopL_step' rfl]
      repeat' (first | (refine cond_by (F := res) (fun _ => ?_) (fun _ => ?_)) | (refine wayK_by (F := res) (fun _ hb_ => ?_) (fun _ hb_ => ?_) <;> simp only [hb_]) | (refine wayK_byN (F := res) (fun _ hb_ => ?_) (fun _ hb_ => ?_) <;> simp only [hb_]) | (refine wayD_by (F := res) (fun _ hb_ => ?_) (fun _ hb_ => ?_) <;> simp only [hb_]) | (refine wayD_byN (F := res) (fun _ hb_ => ?_) (fun _ hb_ => ?_) <;> simp only [hb_]) | (refine rdK_by (F := res) (fun _ => ?_) (fun _ => ?_)) | (refine effK_by (F := res) (fun _ => ?_) (fun _ => ?_)) | (refine effK_by2 (F := res) (fun _ => ?_) (fun _ => ?_)) | (refine rdD_by (F := res) (fun _ => ?_) (fun _ => ?_)) | (refine effD_by (F := res) (fun _ => ?_) (fun _ => ?_)) | (refine effD_by2 (F := res) (fun _ => ?_) (fun _ => ?_)) | simp -implicitDefEqProofs (disch := first | omega | (simp only [List.length_append, List.length_cons, List.length_nil, List.length_drop, List.length_take]; omega)) only [evs, tys, lors, Nat.reduceAdd, Nat.reduceSub, Nat.reduceMul, Nat.reducePow, Nat.reduceBEq, Nat.reduceLT, Nat.reduceLeDiff, Nat.reduceEqDiff, Int.reduceLT, Int.reduceLE, Int.reduceEq, Int.reduceNe, Int.reduceToNat, Int.reduceAdd, Int.reduceSub, Int.reduceMul, Int.reducePow, Int.reduceDiv, Int.reduceMod, Int.reduceNeg, reduceCtorEq, codeKey, List.contains, List.elem, Ev.load, peek, pack, storeV, fieldAddr, field, cvB, e1, hpt', hl0, e4, decide_true, decide_false])
      rw [q4]
      repeat' (first | (refine cond_by (F := res) (fun _ => ?_) (fun _ => ?_)) | (refine wayK_by (F := res) (fun _ hb_ => ?_) (fun _ hb_ => ?_) <;> simp only [hb_]) | (refine wayK_byN (F := res) (fun _ hb_ => ?_) (fun _ hb_ => ?_) <;> simp only [hb_]) | (refine wayD_by (F := res) (fun _ hb_ => ?_) (fun _ hb_ => ?_) <;> simp only [hb_]) | (refine wayD_byN (F := res) (fun _ hb_ => ?_) (fun _ hb_ => ?_) <;> simp only [hb_]) | (refine rdK_by (F := res) (fun _ => ?_) (fun _ => ?_)) | (refine effK_by (F := res) (fun _ => ?_) (fun _ => ?_)) | (refine effK_by2 (F := res) (fun _ => ?_) (fun _ => ?_)) | (refine rdD_by (F := res) (fun _ => ?_) (fun _ => ?_)) | (refine effD_by (F := res) (fun _ => ?_) (fun _ => ?_)) | (refine effD_by2 (F := res) (fun _ => ?_) (fun _ => ?_)) | simp -implicitDefEqProofs (disch := first | omega | (simp only [List.length_append, List.length_cons, List.length_nil, List.length_drop, List.length_take]; omega)) only [evs, tys, lors, Nat.reduceAdd, Nat.reduceSub, Nat.reduceMul, Nat.reducePow, Nat.reduceBEq, Nat.reduceLT, Nat.reduceLeDiff, Nat.reduceEqDiff, Int.reduceLT, Int.reduceLE, Int.reduceEq, Int.reduceNe, Int.reduceToNat, Int.reduceAdd, Int.reduceSub, Int.reduceMul, Int.reducePow, Int.reduceDiv, Int.reduceMod, Int.reduceNeg, reduceCtorEq, codeKey, List.contains, List.elem, Ev.load, peek, pack, storeV, fieldAddr, field, cvB])
      all_goals exact res_eq
  · cases l with
    | nil => simp [fltL] at hf
    | cons p xs =>
      obtain ⟨hp1, hp2⟩ := hd p (by simp)
      have hnb : NB [NBX, ⟨[.int .i64 p.1, .fl .f64 p.2], 0, false, false⟩] 0 (rst E0 0) := rfl
      have hpt := point_nil _ 0 hnb p.1 hp1 p.2 hp2
      have hst := encPt_st hp1 (vbN_lt hp2) E0_ok.1 E0_ok.2
      have hle := encPt_le E0 p.1 (vbN p.2)
      have hlt : ¬ (65535 : Int) < ((xs.length + 1 : Nat) : Int) := by simp at h; omega
      have hl0 : (0 : Int) < ((xs.length + 1 : Nat) : Int) := by omega
      rw [List.length_cons] at e4
      have e1 : (encD (p :: xs))[0]? = some (.agg [.int .i64 p.1, .fl .f64 p.2]) := rfl
      have hpt' : callV (CL lore) 44 [.ptr 0 0, .agg [.int .i64 p.1, .fl .f64 p.2]] [⟨[.nils, .int .i64 0, .int .i64 0, .int .i64 0, .fl .f64 0, .int .u64 0, .int .u64 0, .bool false, .int .i64 0, .int .i64 0], 0, false, false⟩, ⟨[.int .i64 p.1, .fl .f64 p.2], 0, false, false⟩] = some (.tup [], WB [NBX, ⟨[.int .i64 p.1, .fl .f64 p.2], 0, false, false⟩, ⟨[.int .i64 p.1, .fl .f64 p.2], 0, false, false⟩, Z0] 0 3 (encPt E0 p.1 (vbN p.2)).1 (rst (encPt E0 p.1 (vbN p.2)).2 p.2)) := hpt
      obtain ⟨a, ha⟩ : ∃ a, loopIn Tryd.prog 23 5 = some a := ⟨_, rfl⟩
      have hW := loopW (p :: xs) c hd h a ha xs [] p [NBX, ⟨[.int .i64 p.1, .fl .f64 p.2], 0, false, false⟩, ⟨[.int .i64 p.1, .fl .f64 p.2], 0, false, false⟩, Z0] 3 (encPt E0 p.1 (vbN p.2)).1 (encPt E0 p.1 (vbN p.2)).2 p.2 1 rfl hst.1 rfl (by simp) (by simp) (by simp) hst.2.2.1 hst.2.2.2 hst.2.1 (encPt_01 _ _ _) (by simp only [List.length_nil]; omega)
      obtain ⟨H', k, q4⟩ := hW.2 j hf
      refine ⟨H', callV_sh rfl ?_⟩
      generalize rst (encPt E0 p.1 (vbN p.2)).2 p.2 = rs at *
      rw [List.length_cons] at q4
      rw [call_start lore_ext23 Tryd.func23 rfl lore_okf23 (Nat.le_of_ble_eq_true rfl)]
      repeat' (first | (refine cond_by (F := res) (fun _ => ?_) (fun _ => ?_)) | (refine wayK_by (F := res) (fun _ hb_ => ?_) (fun _ hb_ => ?_) <;> simp only [hb_]) | (refine wayK_byN (F := res) (fun _ hb_ => ?_) (fun _ hb_ => ?_) <;> simp only [hb_]) | (refine wayD_by (F := res) (fun _ hb_ => ?_) (fun _ hb_ => ?_) <;> simp only [hb_]) | (refine wayD_byN (F := res) (fun _ hb_ => ?_) (fun _ hb_ => ?_) <;> simp only [hb_]) | (refine rdK_by (F := res) (fun _ => ?_) (fun _ => ?_)) | (refine effK_by (F := res) (fun _ => ?_) (fun _ => ?_)) | (refine effK_by2 (F := res) (fun _ => ?_) (fun _ => ?_)) | (refine rdD_by (F := res) (fun _ => ?_) (fun _ => ?_)) | (refine effD_by (F := res) (fun _ => ?_) (fun _ => ?_)) | (refine effD_by2 (F := res) (fun _ => ?_) (fun _ => ?_)) | simp -implicitDefEqProofs (disch := first | omega | (simp only [List.length_append, List.length_cons, List.length_nil, List.length_drop, List.length_take]; omega)) only [evs, tys, lors, Nat.reduceAdd, Nat.reduceSub, Nat.reduceMul, Nat.reducePow, Nat.reduceBEq, Nat.reduceLT, Nat.reduceLeDiff, Nat.reduceEqDiff, Int.reduceLT, Int.reduceLE, Int.reduceEq, Int.reduceNe, Int.reduceToNat, Int.reduceAdd, Int.reduceSub, Int.reduceMul, Int.reducePow, Int.reduceDiv, Int.reduceMod, Int.reduceNeg, reduceCtorEq, codeKey, List.contains, List.elem, Ev.load, peek, pack, storeV, fieldAddr, field, cvB, e4, hlt, decide_false])
      obtain rfl : a = _ := (Option.some.inj ((show loopIn Tryd.prog 23 5 = some _ from rfl).symm.trans ha)).symm
      rw [loopL_step' rfl]
      repeat' (first | (refine cond_by (F := res) (fun _ => ?_) (fun _ => ?_)) | (refine wayK_by (F := res) (fun _ hb_ => ?_) (fun _ hb_ => ?_) <;> simp only [hb_]) | (refine wayK_byN (F := res) (fun _ hb_ => ?_) (fun _ hb_ => ?_) <;> simp only [hb_]) | (refine wayD_by (F := res) (fun _ hb_ => ?_) (fun _ hb_ => ?_) <;> simp only [hb_]) | (refine wayD_byN (F := res) (fun _ hb_ => ?_) (fun _ hb_ => ?_) <;> simp only [hb_]) | (refine rdK_by (F := res) (fun _ => ?_) (fun _ => ?_)) | (refine effK_by (F := res) (fun _ => ?_) (fun _ => ?_)) | (refine effK_by2 (F := res) (fun _ => ?_) (fun _ => ?_)) | (refine rdD_by (F := res) (fun _ => ?_) (fun _ => ?_)) | (refine effD_by (F := res) (fun _ => ?_) (fun _ => ?_)) | (refine effD_by2 (F := res) (fun _ => ?_) (fun _ => ?_)) | simp -implicitDefEqProofs (disch := first | omega | (simp only [List.length_append, List.length_cons, List.length_nil, List.length_drop, List.length_take]; omega)) only [evs, tys, lors, Nat.reduceAdd, Nat.reduceSub, Nat.reduceMul, Nat.reducePow, Nat.reduceBEq, Nat.reduceLT, Nat.reduceLeDiff, Nat.reduceEqDiff, Int.reduceLT, Int.reduceLE, Int.reduceEq, Int.reduceNe, Int.reduceToNat, Int.reduceAdd, Int.reduceSub, Int.reduceMul, Int.reducePow, Int.reduceDiv, Int.reduceMod, Int.reduceNeg, reduceCtorEq, codeKey, List.contains, List.elem, Ev.load, peek, pack, storeV, fieldAddr, field, cvB, e1, hpt', hl0, e4, decide_true, decide_false])
      rw [q4]
      repeat' (first | (refine cond_by (F := res) (fun _ => ?_) (fun _ => ?_)) | (refine wayK_by (F := res) (fun _ hb_ => ?_) (fun _ hb_ => ?_) <;> simp only [hb_]) | (refine wayK_byN (F := res) (fun _ hb_ => ?_) (fun _ hb_ => ?_) <;> simp only [hb_]) | (refine wayD_by (F := res) (fun _ hb_ => ?_) (fun _ hb_ => ?_) <;> simp only [hb_]) | (refine wayD_byN (F := res) (fun _ hb_ => ?_) (fun _ hb_ => ?_) <;> simp only [hb_]) | (refine rdK_by (F := res) (fun _ => ?_) (fun _ => ?_)) | (refine effK_by (F := res) (fun _ => ?_) (fun _ => ?_)) | (refine effK_by2 (F := res) (fun _ => ?_) (fun _ => ?_)) | (refine rdD_by (F := res) (fun _ => ?_) (fun _ => ?_)) | (refine effD_by (F := res) (fun _ => ?_) (fun _ => ?_)) | (refine effD_by2 (F := res) (fun _ => ?_) (fun _ => ?_)) | simp -implicitDefEqProofs (disch := first | omega | (simp only [List.length_append, List.length_cons, List.length_nil, List.length_drop, List.length_take]; omega)) only [evs, tys, lors, Nat.reduceAdd, Nat.reduceSub, Nat.reduceMul, Nat.reducePow, Nat.reduceBEq, Nat.reduceLT, Nat.reduceLeDiff, Nat.reduceEqDiff, Int.reduceLT, Int.reduceLE, Int.reduceEq, Int.reduceNe, Int.reduceToNat, Int.reduceAdd, Int.reduceSub, Int.reduceMul, Int.reducePow, Int.reduceDiv, Int.reduceMod, Int.reduceNeg, reduceCtorEq, codeKey, List.contains, List.elem, Ev.load, peek, pack, storeV, fieldAddr, field, cvB])
      all_goals exact res_eq
theorem chunk_cv (H : Heap) (h r : Nat) (h1 : h < H.length) (h2 : r < H.length) (h3 : h ≠ r) (bits : List Int) (s : ES) (u : Nat) (hi : s.i ≤ 65535) (hne : packB bits ≠ []) (hlb : (packB bits).length ≤ 9999999999) :
    callV (CL lore) 24 [.ptr h 0] (WB H h r bits (rst s u)) = some (.row H.length (2 + (packB bits).length), WB (H ++ [⟨enc8 (((s.i / 256 : Nat) : Int) :: ((s.i % 256 : Nat) : Int) :: packB bits), 1, true, false⟩]) h r bits (rst s u)) := by
  have e1 : IntKind.u8.wrap ((s.i : Int) / 256) = ((s.i / 256 : Nat) : Int) := by rw [w_u8 (by omega) (by omega)]; omega
  have e2 : IntKind.u8.wrap (s.i : Int) = ((s.i % 256 : Nat) : Int) := by rw [IntKind.wrap_u8]; omega
  have hys : enc8 (packB bits) ≠ [] := by
    intro hh
    exact hne (by cases hp : packB bits with
      | nil => rfl
      | cons a b => rw [hp] at hh; simp [enc8] at hh)
  have hsr := fun (b : List Int) => src_row (wb_r (bits := bits) (rest := rst s u) h1 h2 h3) (enc8_len (packB bits))
  have hap := fun (es : List V) (hes : es.length = 2) => app_sl (H := WB H h r bits (rst s u)) (es := es) hys (plains_enc8 _) (by rw [enc8_len]; omega)
  have hap2 := hap [.int .u8 ((s.i / 256 : Nat) : Int), .int .u8 ((s.i % 256 : Nat) : Int)] rfl
  rw [wb_len, enc8_len, wb_app h1 h2] at hap2
  refine callV_sh rfl ?_
  generalize hse : (s.i : Int) = si at *
  have hw1 := wb_h (bits := bits) (rest := rst s u) h1 h2 h3
  simp only [rst, hse] at hw1 hap2 hsr ⊢
  rw [call_start lore_ext24 Tryd.func24 rfl lore_okf24 (Nat.le_of_ble_eq_true rfl)]
  repeat' (first | (refine cond_by (F := res) (fun _ => ?_) (fun _ => ?_)) | (refine wayK_by (F := res) (fun _ hb_ => ?_) (fun _ hb_ => ?_) <;> simp only [hb_]) | (refine wayK_byN (F := res) (fun _ hb_ => ?_) (fun _ hb_ => ?_) <;> simp only [hb_]) | (refine wayD_by (F := res) (fun _ hb_ => ?_) (fun _ hb_ => ?_) <;> simp only [hb_]) | (refine wayD_byN (F := res) (fun _ hb_ => ?_) (fun _ hb_ => ?_) <;> simp only [hb_]) | (refine rdK_by (F := res) (fun _ => ?_) (fun _ => ?_)) | (refine effK_by (F := res) (fun _ => ?_) (fun _ => ?_)) | (refine effK_by2 (F := res) (fun _ => ?_) (fun _ => ?_)) | (refine rdD_by (F := res) (fun _ => ?_) (fun _ => ?_)) | (refine effD_by (F := res) (fun _ => ?_) (fun _ => ?_)) | (refine effD_by2 (F := res) (fun _ => ?_) (fun _ => ?_)) | simp -implicitDefEqProofs (disch := first | omega | (simp only [List.length_append, List.length_cons, List.length_nil, List.length_drop, List.length_take]; omega)) only [evs, tys, lors, Nat.reduceAdd, Nat.reduceSub, Nat.reduceMul, Nat.reducePow, Nat.reduceBEq, Nat.reduceLT, Nat.reduceLeDiff, Nat.reduceEqDiff, Int.reduceLT, Int.reduceLE, Int.reduceEq, Int.reduceNe, Int.reduceToNat, Int.reduceAdd, Int.reduceSub, Int.reduceMul, Int.reducePow, Int.reduceDiv, Int.reduceMod, Int.reduceNeg, reduceCtorEq, codeKey, List.contains, List.elem, Ev.load, peek, pack, storeV, fieldAddr, field, cvB, hw1, e1, e2, shr_any, hsr [], hap2])
  all_goals repeat (rw [chkB_bit (by kernel_rfl)])
  all_goals first | exact res_eq | (repeat' (first | (refine cond_by (F := res) (fun _ => ?_) (fun _ => ?_)) | (refine wayK_by (F := res) (fun _ hb_ => ?_) (fun _ hb_ => ?_) <;> simp only [hb_]) | (refine wayK_byN (F := res) (fun _ hb_ => ?_) (fun _ hb_ => ?_) <;> simp only [hb_]) | (refine wayD_by (F := res) (fun _ hb_ => ?_) (fun _ hb_ => ?_) <;> simp only [hb_]) | (refine wayD_byN (F := res) (fun _ hb_ => ?_) (fun _ hb_ => ?_) <;> simp only [hb_]) | (refine rdK_by (F := res) (fun _ => ?_) (fun _ => ?_)) | (refine effK_by (F := res) (fun _ => ?_) (fun _ => ?_)) | (refine effK_by2 (F := res) (fun _ => ?_) (fun _ => ?_)) | (refine rdD_by (F := res) (fun _ => ?_) (fun _ => ?_)) | (refine effD_by (F := res) (fun _ => ?_) (fun _ => ?_)) | (refine effD_by2 (F := res) (fun _ => ?_) (fun _ => ?_)) | simp -implicitDefEqProofs (disch := first | omega | (simp only [List.length_append, List.length_cons, List.length_nil, List.length_drop, List.length_take]; omega)) only [evs, tys, lors, Nat.reduceAdd, Nat.reduceSub, Nat.reduceMul, Nat.reducePow, Nat.reduceBEq, Nat.reduceLT, Nat.reduceLeDiff, Nat.reduceEqDiff, Int.reduceLT, Int.reduceLE, Int.reduceEq, Int.reduceNe, Int.reduceToNat, Int.reduceAdd, Int.reduceSub, Int.reduceMul, Int.reducePow, Int.reduceDiv, Int.reduceMod, Int.reduceNeg, reduceCtorEq, codeKey, List.contains, List.elem, Ev.load, peek, pack, storeV, fieldAddr, field, cvB, hw1]); all_goals exact res_eq) | trace_state
/-- What Encode answers. -/
def encV (l : List (Int × Nat)) : V := if 65535 < l.length then .tup [.nils, .int .i64 3, .int .i64 65535] else match fltL l with
  | some j => .tup [.nils, .int .i64 190, .int .i64 (j : Nat)]
  | none => .tup [.sl (enc8 (bytesL l)) 1 l.isEmpty, .int .i64 0, .int .i64 0]
theorem encode_cv (l : List (Int × Nat)) (c : Bool) (hd : DotsOk l) (H : Heap) : callV (CL lore) 8 [.sl (encD l) 2 c] H = some (encV l, H) := by
  refine callV_ans (r := some _) ?_ lore_sh8 rfl H
  obtain ⟨w1, w2, w3, w4⟩ := written_cv l c hd
  unfold encV
  rw [call_start lore_ext8 Tryd.func8 rfl lore_okf8 (Nat.le_of_ble_eq_true rfl)]
  by_cases hl : 65535 < l.length
  · rw [if_pos hl]
    have w1 := w1 hl
    repeat' (first | (refine cond_by (F := ans) (fun _ => ?_) (fun _ => ?_)) | (refine wayK_by (F := ans) (fun _ hb_ => ?_) (fun _ hb_ => ?_) <;> simp only [hb_]) | (refine wayK_byN (F := ans) (fun _ hb_ => ?_) (fun _ hb_ => ?_) <;> simp only [hb_]) | (refine wayD_by (F := ans) (fun _ hb_ => ?_) (fun _ hb_ => ?_) <;> simp only [hb_]) | (refine wayD_byN (F := ans) (fun _ hb_ => ?_) (fun _ hb_ => ?_) <;> simp only [hb_]) | (refine rdK_by (F := ans) (fun _ => ?_) (fun _ => ?_)) | (refine effK_by (F := ans) (fun _ => ?_) (fun _ => ?_)) | (refine effK_by2 (F := ans) (fun _ => ?_) (fun _ => ?_)) | (refine rdD_by (F := ans) (fun _ => ?_) (fun _ => ?_)) | (refine effD_by (F := ans) (fun _ => ?_) (fun _ => ?_)) | (refine effD_by2 (F := ans) (fun _ => ?_) (fun _ => ?_)) | simp -implicitDefEqProofs (disch := first | omega | (simp only [List.length_append, List.length_cons, List.length_nil, List.length_drop, List.length_take]; omega)) only [evs, tys, lors, Nat.reduceAdd, Nat.reduceSub, Nat.reduceMul, Nat.reducePow, Nat.reduceBEq, Nat.reduceLT, Nat.reduceLeDiff, Nat.reduceEqDiff, Int.reduceLT, Int.reduceLE, Int.reduceEq, Int.reduceNe, Int.reduceToNat, Int.reduceAdd, Int.reduceSub, Int.reduceMul, Int.reducePow, Int.reduceDiv, Int.reduceMod, Int.reduceNeg, reduceCtorEq, codeKey, List.contains, List.elem, Ev.load, peek, pack, storeV, fieldAddr, field, cvB, w1])
    all_goals trace_state
  · rw [if_neg hl]
    cases hf : fltL l with
    | some j =>
      obtain ⟨H', w⟩ := w4 (by omega) j hf
      repeat' (first | (refine cond_by (F := ans) (fun _ => ?_) (fun _ => ?_)) | (refine wayK_by (F := ans) (fun _ hb_ => ?_) (fun _ hb_ => ?_) <;> simp only [hb_]) | (refine wayK_byN (F := ans) (fun _ hb_ => ?_) (fun _ hb_ => ?_) <;> simp only [hb_]) | (refine wayD_by (F := ans) (fun _ hb_ => ?_) (fun _ hb_ => ?_) <;> simp only [hb_]) | (refine wayD_byN (F := ans) (fun _ hb_ => ?_) (fun _ hb_ => ?_) <;> simp only [hb_]) | (refine rdK_by (F := ans) (fun _ => ?_) (fun _ => ?_)) | (refine effK_by (F := ans) (fun _ => ?_) (fun _ => ?_)) | (refine effK_by2 (F := ans) (fun _ => ?_) (fun _ => ?_)) | (refine rdD_by (F := ans) (fun _ => ?_) (fun _ => ?_)) | (refine effD_by (F := ans) (fun _ => ?_) (fun _ => ?_)) | (refine effD_by2 (F := ans) (fun _ => ?_) (fun _ => ?_)) | simp -implicitDefEqProofs (disch := first | omega | (simp only [List.length_append, List.length_cons, List.length_nil, List.length_drop, List.length_take]; omega)) only [evs, tys, lors, Nat.reduceAdd, Nat.reduceSub, Nat.reduceMul, Nat.reducePow, Nat.reduceBEq, Nat.reduceLT, Nat.reduceLeDiff, Nat.reduceEqDiff, Int.reduceLT, Int.reduceLE, Int.reduceEq, Int.reduceNe, Int.reduceToNat, Int.reduceAdd, Int.reduceSub, Int.reduceMul, Int.reducePow, Int.reduceDiv, Int.reduceMod, Int.reduceNeg, reduceCtorEq, codeKey, List.contains, List.elem, Ev.load, peek, pack, storeV, fieldAddr, field, cvB, w])
      all_goals trace_state
    | none =>
      by_cases hn : l = []
      · have w := w2 hn
        subst hn
        try simp only [rst, E0] at w
        have ez : ((0 : Nat) : Int) = 0 := rfl
        try simp only [ez] at w
        have hb0 : (enc8 (bytesL [])) = [.int .u8 0, .int .u8 0] := rfl
        rw [hb0]
        have h24 : callV (CL lore) 24 [.ptr 0 0] [⟨[.nils, .int .i64 0, .int .i64 0, .int .i64 0, .fl .f64 0, .int .u64 0, .int .u64 0, .bool false, .int .i64 0, .int .i64 0], 0, false, false⟩] = some (.sl [.int .u8 0, .int .u8 0] 1 true, [⟨[.nils, .int .i64 0, .int .i64 0, .int .i64 0, .fl .f64 0, .int .u64 0, .int .u64 0, .bool false, .int .i64 0, .int .i64 0], 0, false, false⟩]) := by
          refine callV_sh rfl ?_
          rw [call_start lore_ext24 Tryd.func24 rfl lore_okf24 (Nat.le_of_ble_eq_true rfl)]
          repeat' (first | (refine cond_by (F := res) (fun _ => ?_) (fun _ => ?_)) | (refine wayK_by (F := res) (fun _ hb_ => ?_) (fun _ hb_ => ?_) <;> simp only [hb_]) | (refine wayK_byN (F := res) (fun _ hb_ => ?_) (fun _ hb_ => ?_) <;> simp only [hb_]) | (refine wayD_by (F := res) (fun _ hb_ => ?_) (fun _ hb_ => ?_) <;> simp only [hb_]) | (refine wayD_byN (F := res) (fun _ hb_ => ?_) (fun _ hb_ => ?_) <;> simp only [hb_]) | (refine rdK_by (F := res) (fun _ => ?_) (fun _ => ?_)) | (refine effK_by (F := res) (fun _ => ?_) (fun _ => ?_)) | (refine effK_by2 (F := res) (fun _ => ?_) (fun _ => ?_)) | (refine rdD_by (F := res) (fun _ => ?_) (fun _ => ?_)) | (refine effD_by (F := res) (fun _ => ?_) (fun _ => ?_)) | (refine effD_by2 (F := res) (fun _ => ?_) (fun _ => ?_)) | simp -implicitDefEqProofs (disch := first | omega | (simp only [List.length_append, List.length_cons, List.length_nil, List.length_drop, List.length_take]; omega)) only [evs, tys, lors, Nat.reduceAdd, Nat.reduceSub, Nat.reduceMul, Nat.reducePow, Nat.reduceBEq, Nat.reduceLT, Nat.reduceLeDiff, Nat.reduceEqDiff, Int.reduceLT, Int.reduceLE, Int.reduceEq, Int.reduceNe, Int.reduceToNat, Int.reduceAdd, Int.reduceSub, Int.reduceMul, Int.reducePow, Int.reduceDiv, Int.reduceMod, Int.reduceNeg, reduceCtorEq, codeKey, List.contains, List.elem, Ev.load, peek, pack, storeV, fieldAddr, field, cvB, src_nils, app_sl0, shr_any])
          all_goals exact res_eq
        have h24' : callV (CL lore) 24 [.ptr 0 0] [NBX] = some (.sl [.int .u8 0, .int .u8 0] 1 true, [NBX]) := h24
        repeat' (first | (refine cond_by (F := ans) (fun _ => ?_) (fun _ => ?_)) | (refine wayK_by (F := ans) (fun _ hb_ => ?_) (fun _ hb_ => ?_) <;> simp only [hb_]) | (refine wayK_byN (F := ans) (fun _ hb_ => ?_) (fun _ hb_ => ?_) <;> simp only [hb_]) | (refine wayD_by (F := ans) (fun _ hb_ => ?_) (fun _ hb_ => ?_) <;> simp only [hb_]) | (refine wayD_byN (F := ans) (fun _ hb_ => ?_) (fun _ hb_ => ?_) <;> simp only [hb_]) | (refine rdK_by (F := ans) (fun _ => ?_) (fun _ => ?_)) | (refine effK_by (F := ans) (fun _ => ?_) (fun _ => ?_)) | (refine effK_by2 (F := ans) (fun _ => ?_) (fun _ => ?_)) | (refine rdD_by (F := ans) (fun _ => ?_) (fun _ => ?_)) | (refine effD_by (F := ans) (fun _ => ?_) (fun _ => ?_)) | (refine effD_by2 (F := ans) (fun _ => ?_) (fun _ => ?_)) | simp -implicitDefEqProofs (disch := first | omega | (simp only [List.length_append, List.length_cons, List.length_nil, List.length_drop, List.length_take]; omega)) only [evs, tys, lors, Nat.reduceAdd, Nat.reduceSub, Nat.reduceMul, Nat.reducePow, Nat.reduceBEq, Nat.reduceLT, Nat.reduceLeDiff, Nat.reduceEqDiff, Int.reduceLT, Int.reduceLE, Int.reduceEq, Int.reduceNe, Int.reduceToNat, Int.reduceAdd, Int.reduceSub, Int.reduceMul, Int.reducePow, Int.reduceDiv, Int.reduceMod, Int.reduceNeg, reduceCtorEq, codeKey, List.contains, List.elem, Ev.load, peek, pack, storeV, fieldAddr, field, cvB, w, h24'])
        all_goals first | rfl | trace_state
      · obtain ⟨H', r, u, q1, q2, q3, w⟩ := w3 (by omega) hn hf
        have hpos : 0 < l.length := List.length_pos_iff.2 hn
        have hel := encL_le vbN l E0
        have hei := esL_i vbN (fun v hv => vbN_lt hv) l E0 hd E0_ok.1 E0_ok.2
        have hei' : (esL vbN E0 l).i = l.length := by rw [hei]; exact Nat.zero_add _
        have hpl := packB_len _ (encL vbN E0 l) rfl
        have hep : 0 < (encL vbN E0 l).length := List.length_pos_iff.2 (encL_ne hn)
        have hpne : packB (encL vbN E0 l) ≠ [] := fun hh => by rw [hh] at hpl; simp at hpl; omega
        have h24 := chunk_cv H' 0 r q1 q2 q3 (encL vbN E0 l) (esL vbN E0 l) u (by omega) hpne (by omega)
        rw [hei'] at h24
        have hb : ((l.length / 256 : Nat) : Int) :: ((l.length % 256 : Nat) : Int) :: packB (encL vbN E0 l) = bytesL l := rfl
        rw [hb] at h24
        have hnw := wb_new (bits := encL vbN E0 l) (rest := rst (esL vbN E0 l) u) q1 q2 ⟨enc8 (bytesL l), 1, true, false⟩
        have hlen : (enc8 (bytesL l)).length = 2 + (packB (encL vbN E0 l)).length := by rw [enc8_len]; simp [bytesL]; omega
        have hie : l.isEmpty = false := by cases l with
          | nil => exact absurd rfl hn
          | cons a b => rfl
        rw [hie]
        generalize rst (esL vbN E0 l) u = rs at *
        repeat' (first | (refine cond_by (F := ans) (fun _ => ?_) (fun _ => ?_)) | (refine wayK_by (F := ans) (fun _ hb_ => ?_) (fun _ hb_ => ?_) <;> simp only [hb_]) | (refine wayK_byN (F := ans) (fun _ hb_ => ?_) (fun _ hb_ => ?_) <;> simp only [hb_]) | (refine wayD_by (F := ans) (fun _ hb_ => ?_) (fun _ hb_ => ?_) <;> simp only [hb_]) | (refine wayD_byN (F := ans) (fun _ hb_ => ?_) (fun _ hb_ => ?_) <;> simp only [hb_]) | (refine rdK_by (F := ans) (fun _ => ?_) (fun _ => ?_)) | (refine effK_by (F := ans) (fun _ => ?_) (fun _ => ?_)) | (refine effK_by2 (F := ans) (fun _ => ?_) (fun _ => ?_)) | (refine rdD_by (F := ans) (fun _ => ?_) (fun _ => ?_)) | (refine effD_by (F := ans) (fun _ => ?_) (fun _ => ?_)) | (refine effD_by2 (F := ans) (fun _ => ?_) (fun _ => ?_)) | simp -implicitDefEqProofs (disch := first | omega | (simp only [List.length_append, List.length_cons, List.length_nil, List.length_drop, List.length_take]; omega)) only [evs, tys, lors, Nat.reduceAdd, Nat.reduceSub, Nat.reduceMul, Nat.reducePow, Nat.reduceBEq, Nat.reduceLT, Nat.reduceLeDiff, Nat.reduceEqDiff, Int.reduceLT, Int.reduceLE, Int.reduceEq, Int.reduceNe, Int.reduceToNat, Int.reduceAdd, Int.reduceSub, Int.reduceMul, Int.reducePow, Int.reduceDiv, Int.reduceMod, Int.reduceNeg, reduceCtorEq, codeKey, List.contains, List.elem, Ev.load, peek, pack, storeV, fieldAddr, field, cvB, w, h24])
        all_goals simp [giveP, give, fz2s, fz2, fz1, hnw, hlen, V.plain]
theorem bitsN_cv (l : List (Int × Nat)) (c : Bool) (hd : DotsOk l) (H : Heap) : callV (CL lore) 10 [.sl (encD l) 2 c] H = some (if 65535 < l.length then .tup [.int .i64 0, .int .i64 3] else match fltL l with
  | some j => .tup [.int .i64 0, .int .i64 190]
  | none => .tup [.int .i64 (encL vbN E0 l).length, .int .i64 0], H) := by
  refine callV_ans (r := some _) ?_ lore_sh10 rfl H
  obtain ⟨w1, w2, w3, w4⟩ := written_cv l c hd
  rw [call_start lore_ext10 Tryd.func10 rfl lore_okf10 (Nat.le_of_ble_eq_true rfl)]
  by_cases hl : 65535 < l.length
  · rw [if_pos hl]
    have w1 := w1 hl
    repeat' (first | (refine cond_by (F := ans) (fun _ => ?_) (fun _ => ?_)) | (refine wayK_by (F := ans) (fun _ hb_ => ?_) (fun _ hb_ => ?_) <;> simp only [hb_]) | (refine wayK_byN (F := ans) (fun _ hb_ => ?_) (fun _ hb_ => ?_) <;> simp only [hb_]) | (refine wayD_by (F := ans) (fun _ hb_ => ?_) (fun _ hb_ => ?_) <;> simp only [hb_]) | (refine wayD_byN (F := ans) (fun _ hb_ => ?_) (fun _ hb_ => ?_) <;> simp only [hb_]) | (refine rdK_by (F := ans) (fun _ => ?_) (fun _ => ?_)) | (refine effK_by (F := ans) (fun _ => ?_) (fun _ => ?_)) | (refine effK_by2 (F := ans) (fun _ => ?_) (fun _ => ?_)) | (refine rdD_by (F := ans) (fun _ => ?_) (fun _ => ?_)) | (refine effD_by (F := ans) (fun _ => ?_) (fun _ => ?_)) | (refine effD_by2 (F := ans) (fun _ => ?_) (fun _ => ?_)) | simp -implicitDefEqProofs (disch := first | omega | (simp only [List.length_append, List.length_cons, List.length_nil, List.length_drop, List.length_take]; omega)) only [evs, tys, lors, Nat.reduceAdd, Nat.reduceSub, Nat.reduceMul, Nat.reducePow, Nat.reduceBEq, Nat.reduceLT, Nat.reduceLeDiff, Nat.reduceEqDiff, Int.reduceLT, Int.reduceLE, Int.reduceEq, Int.reduceNe, Int.reduceToNat, Int.reduceAdd, Int.reduceSub, Int.reduceMul, Int.reducePow, Int.reduceDiv, Int.reduceMod, Int.reduceNeg, reduceCtorEq, codeKey, List.contains, List.elem, Ev.load, peek, pack, storeV, fieldAddr, field, cvB, w1])
  · rw [if_neg hl]
    cases hf : fltL l with
    | some j =>
      obtain ⟨H', w⟩ := w4 (by omega) j hf
      repeat' (first | (refine cond_by (F := ans) (fun _ => ?_) (fun _ => ?_)) | (refine wayK_by (F := ans) (fun _ hb_ => ?_) (fun _ hb_ => ?_) <;> simp only [hb_]) | (refine wayK_byN (F := ans) (fun _ hb_ => ?_) (fun _ hb_ => ?_) <;> simp only [hb_]) | (refine wayD_by (F := ans) (fun _ hb_ => ?_) (fun _ hb_ => ?_) <;> simp only [hb_]) | (refine wayD_byN (F := ans) (fun _ hb_ => ?_) (fun _ hb_ => ?_) <;> simp only [hb_]) | (refine rdK_by (F := ans) (fun _ => ?_) (fun _ => ?_)) | (refine effK_by (F := ans) (fun _ => ?_) (fun _ => ?_)) | (refine effK_by2 (F := ans) (fun _ => ?_) (fun _ => ?_)) | (refine rdD_by (F := ans) (fun _ => ?_) (fun _ => ?_)) | (refine effD_by (F := ans) (fun _ => ?_) (fun _ => ?_)) | (refine effD_by2 (F := ans) (fun _ => ?_) (fun _ => ?_)) | simp -implicitDefEqProofs (disch := first | omega | (simp only [List.length_append, List.length_cons, List.length_nil, List.length_drop, List.length_take]; omega)) only [evs, tys, lors, Nat.reduceAdd, Nat.reduceSub, Nat.reduceMul, Nat.reducePow, Nat.reduceBEq, Nat.reduceLT, Nat.reduceLeDiff, Nat.reduceEqDiff, Int.reduceLT, Int.reduceLE, Int.reduceEq, Int.reduceNe, Int.reduceToNat, Int.reduceAdd, Int.reduceSub, Int.reduceMul, Int.reducePow, Int.reduceDiv, Int.reduceMod, Int.reduceNeg, reduceCtorEq, codeKey, List.contains, List.elem, Ev.load, peek, pack, storeV, fieldAddr, field, cvB, w])
    | none =>
      by_cases hn : l = []
      · have w := w2 hn
        subst hn
        try simp only [rst, E0] at w
        repeat' (first | (refine cond_by (F := ans) (fun _ => ?_) (fun _ => ?_)) | (refine wayK_by (F := ans) (fun _ hb_ => ?_) (fun _ hb_ => ?_) <;> simp only [hb_]) | (refine wayK_byN (F := ans) (fun _ hb_ => ?_) (fun _ hb_ => ?_) <;> simp only [hb_]) | (refine wayD_by (F := ans) (fun _ hb_ => ?_) (fun _ hb_ => ?_) <;> simp only [hb_]) | (refine wayD_byN (F := ans) (fun _ hb_ => ?_) (fun _ hb_ => ?_) <;> simp only [hb_]) | (refine rdK_by (F := ans) (fun _ => ?_) (fun _ => ?_)) | (refine effK_by (F := ans) (fun _ => ?_) (fun _ => ?_)) | (refine effK_by2 (F := ans) (fun _ => ?_) (fun _ => ?_)) | (refine rdD_by (F := ans) (fun _ => ?_) (fun _ => ?_)) | (refine effD_by (F := ans) (fun _ => ?_) (fun _ => ?_)) | (refine effD_by2 (F := ans) (fun _ => ?_) (fun _ => ?_)) | simp -implicitDefEqProofs (disch := first | omega | (simp only [List.length_append, List.length_cons, List.length_nil, List.length_drop, List.length_take]; omega)) only [evs, tys, lors, Nat.reduceAdd, Nat.reduceSub, Nat.reduceMul, Nat.reducePow, Nat.reduceBEq, Nat.reduceLT, Nat.reduceLeDiff, Nat.reduceEqDiff, Int.reduceLT, Int.reduceLE, Int.reduceEq, Int.reduceNe, Int.reduceToNat, Int.reduceAdd, Int.reduceSub, Int.reduceMul, Int.reducePow, Int.reduceDiv, Int.reduceMod, Int.reduceNeg, reduceCtorEq, codeKey, List.contains, List.elem, Ev.load, peek, pack, storeV, fieldAddr, field, cvB, w])
        all_goals rfl
      · obtain ⟨H', r, u, q1, q2, q3, w⟩ := w3 (by omega) hn hf
        have hw1 := wb_h (bits := encL vbN E0 l) (rest := rst (esL vbN E0 l) u) q1 q2 q3
        simp only [rst] at w hw1
        repeat' (first | (refine cond_by (F := ans) (fun _ => ?_) (fun _ => ?_)) | (refine wayK_by (F := ans) (fun _ hb_ => ?_) (fun _ hb_ => ?_) <;> simp only [hb_]) | (refine wayK_byN (F := ans) (fun _ hb_ => ?_) (fun _ hb_ => ?_) <;> simp only [hb_]) | (refine wayD_by (F := ans) (fun _ hb_ => ?_) (fun _ hb_ => ?_) <;> simp only [hb_]) | (refine wayD_byN (F := ans) (fun _ hb_ => ?_) (fun _ hb_ => ?_) <;> simp only [hb_]) | (refine rdK_by (F := ans) (fun _ => ?_) (fun _ => ?_)) | (refine effK_by (F := ans) (fun _ => ?_) (fun _ => ?_)) | (refine effK_by2 (F := ans) (fun _ => ?_) (fun _ => ?_)) | (refine rdD_by (F := ans) (fun _ => ?_) (fun _ => ?_)) | (refine effD_by (F := ans) (fun _ => ?_) (fun _ => ?_)) | (refine effD_by2 (F := ans) (fun _ => ?_) (fun _ => ?_)) | simp -implicitDefEqProofs (disch := first | omega | (simp only [List.length_append, List.length_cons, List.length_nil, List.length_drop, List.length_take]; omega)) only [evs, tys, lors, Nat.reduceAdd, Nat.reduceSub, Nat.reduceMul, Nat.reducePow, Nat.reduceBEq, Nat.reduceLT, Nat.reduceLeDiff, Nat.reduceEqDiff, Int.reduceLT, Int.reduceLE, Int.reduceEq, Int.reduceNe, Int.reduceToNat, Int.reduceAdd, Int.reduceSub, Int.reduceMul, Int.reducePow, Int.reduceDiv, Int.reduceMod, Int.reduceNeg, reduceCtorEq, codeKey, List.contains, List.elem, Ev.load, peek, pack, storeV, fieldAddr, field, cvB, w, hw1])
        all_goals rfl
end Go.Proofs.YtmjdcoacmmmhnaaDoor
