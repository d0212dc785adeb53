/-
sem: Try, Leave, Inside of a semaphore that nobody else is at.
-/
import Derived.Test.YthpfimildcbgmaaDoorC6
namespace Go.Proofs.YthpfimildcbgmaaDoor
open Go Ev
set_option linter.all false
set_option maxHeartbeats 4000000
set_option maxRecDepth 5000
attribute [local irreducible] codeL condL loopL callL callV evOps evDraw rdK effK wayK oneK wayD oneD rdD effD chks chkB res

theorem sm_of {H : Heap} {r hc hs hp : Nat} {D G P : Int} {nx : V} {saw now : Int} {dn : Bool} {an why : Int} (h : SOk H r hc hs hp D G P nx saw now dn an why) : Sm H r hc hs D G P := ⟨h.w, h.c, h.s, h.o.1, h.o.2.1⟩
theorem sok_new {H : Heap} {r hc hs : Nat} {D G P : Int} (h : Sm H r hc hs D G P) (F : Nat) : SOk (H ++ [pendB hs (.fn F [] []) 0 0 false 0 0]) r hc hs H.length D G P (.fn F [] []) 0 0 false 0 0 :=
  ⟨(oldg (lt_of_get h.w) _).trans h.w, (oldg (lt_of_get h.c) _).trans h.c, (oldg (lt_of_get h.s) _).trans h.s, get_new0 _ _, h.o.1, h.o.2, lt_of_get h.s⟩
theorem fr_new {r : Nat} {H H' : Heap} {b : Box} (h : Fr r H.length (H ++ [b]) H') : Fr r H.length H H' :=
  ⟨by have := h.1; simp at this; omega, fun i hi h1 h2 => (h.2 i (by simp; omega) h1 h2).trans (oldg hi _)⟩

section st
variable {H : Heap} {r hc hs : Nat} {D G P : Int} (h : Sm H r hc hs D G P) (hb : (0 ≤ G ∧ G ≤ D) ∧ D ≤ 1000000 ∧ 0 ≤ P ∧ P ≤ 1000000)
include h hb

theorem try_cv : ∃ H' a w, callV (CL lore) 48 [.ptr hs 0, .int .u8 2] H = some (.tup [.int .u64 a, .int .i64 w], H') ∧ Sm H' r hc hs (if P + G ≤ D then D else D + 1) G P ∧ Fr r H.length H H' := by
  obtain ⟨⟨b1, b2⟩, b3, b4, b5⟩ := hb
  have h1 := sok_new h 115
  obtain ⟨v1, H2, b, c, e1, h2, hb2, hc2, f2⟩ := s1_cv (fun h => first115_cv h) h1
  by_cases hf : P + G ≤ D
  · rw [if_pos hf]
    obtain ⟨v2, Z, hZ, e2⟩ := s2_cv (nx' := fun _ => .fn 161 [] [.ptr b 0, .ptr c 0]) (saw' := G) (now' := D) (dn' := true) (an' := 0) (why' := 51) (E := fun _ => []) h2 hb2 hc2 (fun K hK => by
      rw [then140_cv hK ⟨⟨b1, by omega⟩, ⟨by omega, b3⟩, b4, b5⟩, if_pos hf, List.append_nil])
    have h3 := sok_app (sok_setp h2 (.fn 161 [] [.ptr b 0, .ptr c 0]) G D true 0 51) (Z ++ [])
    exact ⟨_, _, _, wh2_cv start2_cv (doneP_cv h1) e1 (doneP_cv h2) e2 (doneP_cv h3) (ansP_cv h3), sm_of h3, fr_new (fr_trans f2 fr_set)⟩
  · rw [if_neg hf]
    obtain ⟨v2, Z, hZ, e2⟩ := s2_cv (nx' := fun n => .fn 163 [] [.ptr n 0, .ptr (n + 4) 0, .ptr (n + 3) 0, .ptr (n + 2) 0]) (saw' := G) (now' := D) (dn' := false) (an' := 0) (why' := 0) (E := fun _ => [iB 0, fB 142, fB 142, fB 115, ⟨[.int .u64 D], 0, false, false⟩]) h2 hb2 hc2 (fun K hK => by
      rw [then140_cv hK ⟨⟨b1, by omega⟩, ⟨by omega, b3⟩, b4, b5⟩, if_neg hf])
    have h3 := sok_app (sok_setp h2 (.fn 163 [] [.ptr (H2.length + 10) 0, .ptr (H2.length + 10 + 4) 0, .ptr (H2.length + 10 + 3) 0, .ptr (H2.length + 10 + 2) 0]) G D false 0 0) (Z ++ [iB 0, fB 142, fB 142, fB 115, ⟨[.int .u64 D], 0, false, false⟩])
    have hg : ∀ (y : Box) (j : Nat), (H2.set H.length y ++ (Z ++ [iB 0, fB 142, fB 142, fB 115, ⟨[.int .u64 D], 0, false, false⟩]))[H2.length + 10 + j]? = [iB 0, fB 142, fB 142, fB 115, ⟨[.int .u64 D], 0, false, false⟩][j]? := fun y j => by
      rw [Nat.add_assoc, gset, ← hZ, get_new]
    obtain ⟨v3, H4, e3, h4, f4⟩ := s3_cv h3 (k := 0) (x := D) (v := D) (D' := D + 1) (G' := G) (hg _ 0) (hg _ 4) (hg _ 3) (hg _ 2) rfl ⟨by omega, b3⟩ rfl (fun H' h' => rd142 h')
    exact ⟨_, _, _, wh3_cv start2_cv (doneP_cv h1) e1 (doneP_cv h2) e2 (doneP_cv h3) e3 (doneP_cv h4) (ansP_cv h4), sm_of h4, fr_new (fr_trans f2 (fr_trans fr_set f4))⟩

theorem leave_cv : ∃ H' a w, callV (CL lore) 48 [.ptr hs 0, .int .u8 3] H = some (.tup [.int .u64 a, .int .i64 w], H') ∧ Sm H' r hc hs D (if D ≤ G then G else G + 1) P ∧ Fr r H.length H H' := by
  obtain ⟨⟨b1, b2⟩, b3, b4, b5⟩ := hb
  have h1 := sok_new h 116
  obtain ⟨v1, H2, b, c, e1, h2, hb2, hc2, f2⟩ := s1_cv (fun h => first116_cv h) h1
  by_cases hf : D ≤ G
  · rw [if_pos hf]
    obtain ⟨v2, Z, hZ, e2⟩ := s2_cv (nx' := fun _ => .fn 161 [] [.ptr b 0, .ptr c 0]) (saw' := G) (now' := D) (dn' := true) (an' := 0) (why' := 70) (E := fun _ => []) h2 hb2 hc2 (fun K hK => by
      rw [then144_cv hK ⟨⟨b1, by omega⟩, ⟨by omega, b3⟩, b4, b5⟩, if_pos hf, List.append_nil])
    have h3 := sok_app (sok_setp h2 (.fn 161 [] [.ptr b 0, .ptr c 0]) G D true 0 70) (Z ++ [])
    exact ⟨_, _, _, wh2_cv start3_cv (doneP_cv h1) e1 (doneP_cv h2) e2 (doneP_cv h3) (ansP_cv h3), sm_of h3, fr_new (fr_trans f2 fr_set)⟩
  · rw [if_neg hf]
    obtain ⟨v2, Z, hZ, e2⟩ := s2_cv (nx' := fun n => .fn 163 [] [.ptr n 0, .ptr (n + 4) 0, .ptr (n + 3) 0, .ptr (n + 2) 0]) (saw' := G) (now' := D) (dn' := false) (an' := 0) (why' := 0) (E := fun _ => [iB 1, fB 145, fB 146, fB 116, ⟨[.int .u64 G], 0, false, false⟩]) h2 hb2 hc2 (fun K hK => by
      rw [then144_cv hK ⟨⟨b1, by omega⟩, ⟨by omega, b3⟩, b4, b5⟩, if_neg hf])
    have h3 := sok_app (sok_setp h2 (.fn 163 [] [.ptr (H2.length + 10) 0, .ptr (H2.length + 10 + 4) 0, .ptr (H2.length + 10 + 3) 0, .ptr (H2.length + 10 + 2) 0]) G D false 0 0) (Z ++ [iB 1, fB 145, fB 146, fB 116, ⟨[.int .u64 G], 0, false, false⟩])
    have hg : ∀ (y : Box) (j : Nat), (H2.set H.length y ++ (Z ++ [iB 1, fB 145, fB 146, fB 116, ⟨[.int .u64 G], 0, false, false⟩]))[H2.length + 10 + j]? = [iB 1, fB 145, fB 146, fB 116, ⟨[.int .u64 G], 0, false, false⟩][j]? := fun y j => by
      rw [Nat.add_assoc, gset, ← hZ, get_new]
    obtain ⟨v3, H4, e3, h4, f4⟩ := s3_cv h3 (k := 1) (x := G) (v := G + 1) (D' := D) (G' := G + 1) (hg _ 0) (hg _ 4) (hg _ 3) (hg _ 2) rfl ⟨b1, by omega⟩ rfl (fun H' h' => rd146 h' b1 (by omega))
    exact ⟨_, _, _, wh3_cv start3_cv (doneP_cv h1) e1 (doneP_cv h2) e2 (doneP_cv h3) e3 (doneP_cv h4) (ansP_cv h4), sm_of h4, fr_new (fr_trans f2 (fr_trans fr_set f4))⟩

theorem inside_cv : ∃ H', callV (CL lore) 48 [.ptr hs 0, .int .u8 4] H = some (.tup [.int .u64 (min D (P + G) - G), .int .i64 0], H') ∧ Sm H' r hc hs D G P ∧ Fr r H.length H H' := by
  obtain ⟨⟨b1, b2⟩, b3, b4, b5⟩ := hb
  have h1 := sok_new h 117
  obtain ⟨v1, H2, b, c, e1, h2, hb2, hc2, f2⟩ := s1_cv (fun h => first117_cv h) h1
  obtain ⟨v2, Z, hZ, e2⟩ := s2_cv (nx' := fun _ => .fn 161 [] [.ptr b 0, .ptr c 0]) (saw' := G) (now' := D) (dn' := true) (an' := min D (P + G) - G) (why' := 0) (E := fun _ => []) h2 hb2 hc2 (fun K hK => by
    rw [then147_cv hK ⟨⟨b1, b2⟩, ⟨by omega, b3⟩, b4, b5⟩, List.append_nil])
  have h3 := sok_app (sok_setp h2 (.fn 161 [] [.ptr b 0, .ptr c 0]) G D true (min D (P + G) - G) 0) (Z ++ [])
  exact ⟨_, wh2_cv start4_cv (doneP_cv h1) e1 (doneP_cv h2) e2 (doneP_cv h3) (ansP_cv h3), sm_of h3, fr_new (fr_trans f2 fr_set)⟩
end st

section fns
variable {H H' : Heap} {hs : Nat} {a w : Int}
theorem f17_cv (h : callV (CL lore) 48 [.ptr hs 0, .int .u8 2] H = some (.tup [.int .u64 a, .int .i64 w], H')) : callV (CL lore) 17 [.ptr hs 0] H = some (.tup [.int .u64 a, .int .i64 w], H') := by
  refine callV_sh rfl ?_
  rw [call_start lore_ext17 Tryd.func17 rfl lore_okf17 (Nat.le_of_ble_eq_true rfl)]
  repeat' (first | (refine cond_by (F := res) (fun _ => ?_) (fun _ => ?_)) | (refine wayK_by (F := res) (fun _ hb_ => ?_) (fun _ hb_ => ?_) <;> simp only [hb_]) | (refine wayK_byN (F := res) (fun _ hb_ => ?_) (fun _ hb_ => ?_) <;> simp only [hb_]) | (refine wayD_by (F := res) (fun _ hb_ => ?_) (fun _ hb_ => ?_) <;> simp only [hb_]) | (refine wayD_byN (F := res) (fun _ hb_ => ?_) (fun _ hb_ => ?_) <;> simp only [hb_]) | (refine rdK_by (F := res) (fun _ => ?_) (fun _ => ?_)) | (refine effK_by (F := res) (fun _ => ?_) (fun _ => ?_)) | (refine effK_by2 (F := res) (fun _ => ?_) (fun _ => ?_)) | (refine rdD_by (F := res) (fun _ => ?_) (fun _ => ?_)) | (refine effD_by (F := res) (fun _ => ?_) (fun _ => ?_)) | (refine effD_by2 (F := res) (fun _ => ?_) (fun _ => ?_)) | simp -implicitDefEqProofs (disch := first | omega | (simp only [List.length_append, List.length_cons, List.length_nil, List.length_drop, List.length_take]; omega)) only [evs, tys, lors, Nat.reduceAdd, Nat.reduceSub, Nat.reduceMul, Nat.reducePow, Nat.reduceBEq, Nat.reduceLT, Nat.reduceLeDiff, Nat.reduceEqDiff, Int.reduceLT, Int.reduceLE, Int.reduceEq, Int.reduceNe, Int.reduceToNat, Int.reduceAdd, Int.reduceSub, Int.reduceMul, Int.reducePow, Int.reduceDiv, Int.reduceMod, Int.reduceNeg, reduceCtorEq, codeKey, List.contains, List.elem, Ev.load, peek, pack, storeV, fieldAddr, field, cvB, h])
  all_goals first | exact res_eq | trace_state
theorem f18_cv (h : callV (CL lore) 48 [.ptr hs 0, .int .u8 3] H = some (.tup [.int .u64 a, .int .i64 w], H')) : callV (CL lore) 18 [.ptr hs 0] H = some (.int .i64 w, H') := by
  refine callV_sh rfl ?_
  rw [call_start lore_ext18 Tryd.func18 rfl lore_okf18 (Nat.le_of_ble_eq_true rfl)]
  repeat' (first | (refine cond_by (F := res) (fun _ => ?_) (fun _ => ?_)) | (refine wayK_by (F := res) (fun _ hb_ => ?_) (fun _ hb_ => ?_) <;> simp only [hb_]) | (refine wayK_byN (F := res) (fun _ hb_ => ?_) (fun _ hb_ => ?_) <;> simp only [hb_]) | (refine wayD_by (F := res) (fun _ hb_ => ?_) (fun _ hb_ => ?_) <;> simp only [hb_]) | (refine wayD_byN (F := res) (fun _ hb_ => ?_) (fun _ hb_ => ?_) <;> simp only [hb_]) | (refine rdK_by (F := res) (fun _ => ?_) (fun _ => ?_)) | (refine effK_by (F := res) (fun _ => ?_) (fun _ => ?_)) | (refine effK_by2 (F := res) (fun _ => ?_) (fun _ => ?_)) | (refine rdD_by (F := res) (fun _ => ?_) (fun _ => ?_)) | (refine effD_by (F := res) (fun _ => ?_) (fun _ => ?_)) | (refine effD_by2 (F := res) (fun _ => ?_) (fun _ => ?_)) | simp -implicitDefEqProofs (disch := first | omega | (simp only [List.length_append, List.length_cons, List.length_nil, List.length_drop, List.length_take]; omega)) only [evs, tys, lors, Nat.reduceAdd, Nat.reduceSub, Nat.reduceMul, Nat.reducePow, Nat.reduceBEq, Nat.reduceLT, Nat.reduceLeDiff, Nat.reduceEqDiff, Int.reduceLT, Int.reduceLE, Int.reduceEq, Int.reduceNe, Int.reduceToNat, Int.reduceAdd, Int.reduceSub, Int.reduceMul, Int.reducePow, Int.reduceDiv, Int.reduceMod, Int.reduceNeg, reduceCtorEq, codeKey, List.contains, List.elem, Ev.load, peek, pack, storeV, fieldAddr, field, cvB, h])
  all_goals first | exact res_eq | trace_state
theorem f19_cv (h : callV (CL lore) 48 [.ptr hs 0, .int .u8 4] H = some (.tup [.int .u64 a, .int .i64 w], H')) : callV (CL lore) 19 [.ptr hs 0] H = some (.tup [.int .u64 a, .int .i64 w], H') := by
  refine callV_sh rfl ?_
  rw [call_start lore_ext19 Tryd.func19 rfl lore_okf19 (Nat.le_of_ble_eq_true rfl)]
  repeat' (first | (refine cond_by (F := res) (fun _ => ?_) (fun _ => ?_)) | (refine wayK_by (F := res) (fun _ hb_ => ?_) (fun _ hb_ => ?_) <;> simp only [hb_]) | (refine wayK_byN (F := res) (fun _ hb_ => ?_) (fun _ hb_ => ?_) <;> simp only [hb_]) | (refine wayD_by (F := res) (fun _ hb_ => ?_) (fun _ hb_ => ?_) <;> simp only [hb_]) | (refine wayD_byN (F := res) (fun _ hb_ => ?_) (fun _ hb_ => ?_) <;> simp only [hb_]) | (refine rdK_by (F := res) (fun _ => ?_) (fun _ => ?_)) | (refine effK_by (F := res) (fun _ => ?_) (fun _ => ?_)) | (refine effK_by2 (F := res) (fun _ => ?_) (fun _ => ?_)) | (refine rdD_by (F := res) (fun _ => ?_) (fun _ => ?_)) | (refine effD_by (F := res) (fun _ => ?_) (fun _ => ?_)) | (refine effD_by2 (F := res) (fun _ => ?_) (fun _ => ?_)) | simp -implicitDefEqProofs (disch := first | omega | (simp only [List.length_append, List.length_cons, List.length_nil, List.length_drop, List.length_take]; omega)) only [evs, tys, lors, Nat.reduceAdd, Nat.reduceSub, Nat.reduceMul, Nat.reducePow, Nat.reduceBEq, Nat.reduceLT, Nat.reduceLeDiff, Nat.reduceEqDiff, Int.reduceLT, Int.reduceLE, Int.reduceEq, Int.reduceNe, Int.reduceToNat, Int.reduceAdd, Int.reduceSub, Int.reduceMul, Int.reducePow, Int.reduceDiv, Int.reduceMod, Int.reduceNeg, reduceCtorEq, codeKey, List.contains, List.elem, Ev.load, peek, pack, storeV, fieldAddr, field, cvB, h])
  all_goals first | exact res_eq | trace_state
end fns
end Go.Proofs.YthpfimildcbgmaaDoor
