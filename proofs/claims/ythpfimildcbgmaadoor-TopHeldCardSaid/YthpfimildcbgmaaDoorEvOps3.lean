/-
The operations that leave the boxes alone: equality, conversions, fields, indexes, literals.
-/
import Derived.Test.YthpfimildcbgmaaDoorEvOps2
namespace Go.Proofs.YthpfimildcbgmaaDoor
namespace Ev
set_option linter.all false
open Go

/-! ### Equality -/

theorem eqCell_run {P : Program} {C : Ctx} (w : World) (d : Nat) {t : TypeId} {x y : V} {ax ay : Value} {r : Bool} (hx : Rel C x ax) (hy : Rel C y ay) (h : eqCell P t x y = some r) :
    (Op.equalIn (d + 1) t ax ay).run P w = .ok r w ∧ (isAgg t).run P w = .ok false w := by
  unfold eqCell at h
  split at h
  · rename_i hu
    split at h
    · rename_i hk
      cases h
      simp only [Rel] at hx hy
      subst hx hy hk
      exact ⟨by simp [Op.equalIn, run_underlying hu], by simp [isAgg, run_underlying hu]⟩
    · cases h
  · rename_i hu
    cases h
    simp only [Rel] at hx hy
    subst hx hy
    exact ⟨by simp [Op.equalIn, run_underlying hu], by simp [isAgg, run_underlying hu]⟩
  · rename_i hu
    cases h
    simp only [Rel] at hx hy
    subst hx hy
    exact ⟨run_equalIn_string w d t _ _ hu, by simp [isAgg, run_underlying hu]⟩
  · cases h

theorem eqFlat_run {P : Program} {C : Ctx} (w : World) (d : Nat) {ax ay : Array Value} : ∀ (fs : List Field) (i : Nat) (xs ys : List V) (r : Bool), Rels C xs (ax.toList.drop i) → Rels C ys (ay.toList.drop i) → eqFlat P i fs xs ys = some r →
      (Op.eqFields (d + 1) ax ay fs).run P w = .ok r w
  | [], i, [], [], r, _, _, h => by
    simp only [eqFlat, Option.some.injEq] at h
    subst h
    simp [Op.eqFields]
  | [], i, [], _ :: _, r, _, _, h => by simp [eqFlat] at h
  | [], i, _ :: _, _, r, _, _, h => by simp [eqFlat] at h
  | f :: fs, i, [], _, r, _, _, h => by simp [eqFlat] at h
  | f :: fs, i, _ :: _, [], r, _, _, h => by simp [eqFlat] at h
  | f :: fs, i, x :: xs, y :: ys, r, hx, hy, h => by
    simp only [eqFlat] at h
    split at h
    · rename_i hc
      obtain ⟨e, h1, h⟩ := Option.bind_eq_some_iff.1 h
      obtain ⟨q, h2, rfl⟩ := Option.map_eq_some_iff.1 h
      simp only [Rels] at hx hy
      obtain ⟨zx, tx, ex, rx, hx⟩ := hx
      obtain ⟨zy, ty, ey, ry, hy⟩ := hy
      obtain ⟨r1, r2⟩ := eqCell_run w d rx ry h1
      have gx : ax[i]? = some zx := by rw [← Array.getElem?_toList, ← Nat.add_zero i, ← List.getElem?_drop, ex]; rfl
      have gy : ay[i]? = some zy := by rw [← Array.getElem?_toList, ← Nat.add_zero i, ← List.getElem?_drop, ey]; rfl
      have dx : ax.toList.drop (i + 1) = tx := by rw [← List.drop_drop, ex]; rfl
      have dy : ay.toList.drop (i + 1) = ty := by rw [← List.drop_drop, ey]; rfl
      have ih := eqFlat_run w d fs (i + 1) xs ys q (by rw [dx]; exact hx) (by rw [dy]; exact hy) h2
      have hn : f.name ≠ "_" := by simpa using hc.1
      simp only [Op.eqFields, hn, ne_eq, not_false_eq_true, if_true, part, hc.2, Sem.run_bind, r2, Result.andThen_ok, Bool.false_eq_true, if_false, gx, gy, Sem.run_pure, r1]
      cases e
      · simp
      · simpa using ih
    · cases h

theorem equalIn_nil {P : Program} {w : World} (d : Nat) {t e : TypeId} (hu : P.underlying t = some (.pointer e)) (p q : Option Addr) (h : p = none ∨ q = none) : (Op.equalIn (d + 1) t (.pointer p) (.pointer q)).run P w = .ok (p.isNone && q.isNone) w := by
  unfold Op.equalIn
  simp only [Sem.run_bind, run_underlying hu, Result.andThen_ok]
  cases p <;> cases q <;> first | rfl | simp at h

theorem equalIn_func {P : Program} {w : World} (d : Nat) {t : TypeId} {a b : Array TypeId} {c : Bool} (hu : P.underlying t = some (.func a b c)) (f : Fn) (p q : Array Value) :
    (Op.equalIn (d + 1) t .nilFunc .nilFunc).run P w = .ok true w ∧ (Op.equalIn (d + 1) t .nilFunc (.func f p q)).run P w = .ok false w ∧ (Op.equalIn (d + 1) t (.func f p q) .nilFunc).run P w = .ok false w := by
  unfold Op.equalIn
  simp only [Sem.run_bind, run_underlying hu, Result.andThen_ok]
  exact ⟨rfl, rfl, rfl⟩

theorem eq_neq {P : Program} {w : World} {t : TypeId} {ax ay : Value} {r : Bool} (he : (Op.equal t ax ay).run P w = .ok r w) (ox oy : Operand)
    (hg : ∀ op, (eqGuard op t ox oy ax ay).run P w = .ok () w) (h1 : binOp .eql t ax ay = (do pure (.bool (← Op.equal t ax ay)))) (h2 : binOp .neq t ax ay = (do pure (.bool (!(← Op.equal t ax ay))))) :
    (do eqGuard .eql t ox oy ax ay; binOp .eql t ax ay : Sem Value).run P w = .ok (.bool r) w ∧ (do eqGuard .neq t ox oy ax ay; binOp .neq t ax ay : Sem Value).run P w = .ok (.bool (!r)) w := by
  rw [h1, h2]
  simp only [Sem.run_bind, hg, he, Result.andThen_ok, Sem.run_pure, and_self]

theorem eqGuard_run {P : Program} (op : BinOp) (t : TypeId) (x y : Operand) (a b : Value) (w : World) (h : (∀ xs, a ≠ .agg xs) ∧ a ≠ .nilIface) :
    (eqGuard op t x y a b).run P w = .ok () w := by
  obtain ⟨h1, h2⟩ := h
  cases a <;> first | (exact absurd rfl (h1 _)) | (exact absurd rfl h2) | (cases op <;> simp [eqGuard])

theorem eqV_run {P : Program} {C : Ctx} (w : World) {t : TypeId} {x y : V} {ax ay : Value} {r : Bool} (hx : Rel C x ax) (hy : Rel C y ay) (h : eqV P t x y = some r) (ox oy : Operand) :
    (do eqGuard .eql t ox oy ax ay; binOp .eql t ax ay : Sem Value).run P w = .ok (.bool r) w ∧ (do eqGuard .neq t ox oy ax ay; binOp .neq t ax ay : Sem Value).run P w = .ok (.bool (!r)) w := by
  obtain ⟨d, hd⟩ : ∃ d, Op.maxDepth = d + 1 + 1 := ⟨9998, rfl⟩
  have hq : ∀ a b, Op.equal t a b = Op.equalIn (d + 1 + 1) t a b := fun a b => by rw [Op.equal, hd]
  cases x <;> cases y <;> simp only [eqV, reduceCtorEq] at h
  all_goals split at h
  all_goals first | (cases h; done) | skip
  all_goals rename_i hu
  · cases h
    simp only [Rel] at hx hy
    subst hx hy
    exact eq_neq (by rw [hq]; exact run_equalIn_bool' w _ t _ _ hu) ox oy (fun op => eqGuard_run _ _ _ _ _ _ _ ⟨by simp, by simp⟩) rfl rfl
  · cases h; simp only [Rel] at hx hy; subst hx hy; exact eq_neq (by rw [hq]; exact equalIn_nil _ hu _ _ (.inl rfl)) ox oy (fun op => eqGuard_run _ _ _ _ _ _ _ ⟨by simp, by simp⟩) rfl rfl
  · cases h; simp only [Rel] at hx hy; obtain ⟨_, _, b, _, rfl⟩ := hy; subst hx; exact eq_neq (by rw [hq]; exact equalIn_nil _ hu _ _ (.inl rfl)) ox oy (fun op => eqGuard_run _ _ _ _ _ _ _ ⟨by simp, by simp⟩) rfl rfl
  · cases h; simp only [Rel] at hx hy; obtain ⟨_, _, _, ⟨b, rfl⟩, _⟩ := hy; subst hx; exact eq_neq (by rw [hq]; exact equalIn_nil _ hu _ _ (.inl rfl)) ox oy (fun op => eqGuard_run _ _ _ _ _ _ _ ⟨by simp, by simp⟩) rfl rfl
  · cases h; simp only [Rel] at hx hy; obtain ⟨_, _, b, o, rfl, _⟩ := hy; subst hx; exact eq_neq (by rw [hq]; exact equalIn_nil _ hu _ _ (.inl rfl)) ox oy (fun op => eqGuard_run _ _ _ _ _ _ _ ⟨by simp, by simp⟩) rfl rfl
  · cases h; simp only [Rel] at hx hy; obtain ⟨_, _, b, _, rfl⟩ := hx; subst hy; exact eq_neq (by rw [hq]; exact equalIn_nil _ hu _ _ (.inr rfl)) ox oy (fun op => eqGuard_run _ _ _ _ _ _ _ ⟨by simp, by simp⟩) rfl rfl
  · cases h; simp only [Rel] at hx hy; obtain ⟨_, _, _, ⟨b, rfl⟩, _⟩ := hx; subst hy; exact eq_neq (by rw [hq]; exact equalIn_nil _ hu _ _ (.inr rfl)) ox oy (fun op => eqGuard_run _ _ _ _ _ _ _ ⟨by simp, by simp⟩) rfl rfl
  · cases h; simp only [Rel] at hx hy; obtain ⟨_, _, b, o, rfl, _⟩ := hx; subst hy; exact eq_neq (by rw [hq]; exact equalIn_nil _ hu _ _ (.inr rfl)) ox oy (fun op => eqGuard_run _ _ _ _ _ _ _ ⟨by simp, by simp⟩) rfl rfl
  · split at h
    · rename_i fs hc
      simp only [Rel] at hx hy
      obtain ⟨xs, rfl, hx⟩ := hx
      obtain ⟨ys, rfl, hy⟩ := hy
      have hf : P.underlying t = some (.struct (P.fieldsOf t)) := by rw [Program.fieldsOf, hu]
      refine eq_neq ?_ ox oy (fun op => run_eqGuard_agg w op t ox oy xs ys hc.2) rfl rfl
      rw [hq, run_equalIn_struct w (d + 1) t xs ys hf hc.1]
      refine eqFlat_run w d _ 0 _ _ r (by simpa using hx) (by simpa using hy) ?_
      rw [Program.fieldsOf, hu]
      exact h
    · cases h
  · cases h; simp only [Rel] at hx hy; obtain ⟨p, q, rfl, _⟩ := hx; subst hy; exact eq_neq (by rw [hq]; exact (equalIn_func _ hu _ p q).2.2) ox oy (fun op => eqGuard_run _ _ _ _ _ _ _ ⟨by simp, by simp⟩) rfl rfl
  · cases h; simp only [Rel] at hx hy; obtain ⟨p, q, rfl, _⟩ := hy; subst hx; exact eq_neq (by rw [hq]; exact (equalIn_func _ hu _ p q).2.1) ox oy (fun op => eqGuard_run _ _ _ _ _ _ _ ⟨by simp, by simp⟩) rfl rfl
  · cases h; simp only [Rel] at hx hy; subst hx hy; exact eq_neq (by rw [hq]; exact (equalIn_func _ hu (.func 0) #[] #[]).1) ox oy (fun op => eqGuard_run _ _ _ _ _ _ _ ⟨by simp, by simp⟩) rfl rfl

/-! ### Binary operations, whatever their operands -/

theorem bin_run {P : Program} {C : Ctx} {H : Heap} {w : World} (hh : HRel C H w) {op : BinOp} {t : TypeId} {x y r : V} {ax ay : Value} (ox oy : Operand) (hx : Rel C x ax) (hy : Rel C y ay) (h : bin P op t x y = some r) :
    Ans C H P w (do eqGuard op t ox oy ax ay; binOp op t ax ay) r := by
  have gen : ∀ (_ : (eqGuard op t ox oy ax ay).run P w = .ok () w), Ans C H P w (binOp op t ax ay) r → Ans C H P w (do eqGuard op t ox oy ax ay; binOp op t ax ay) r := by
    rintro hg ⟨z, w', C', e, k⟩
    exact ⟨z, w', C', by simp only [Sem.run_bind, hg, Result.andThen_ok, e], k⟩
  have eqs : eqOp P op t x y = some r → Ans C H P w (do eqGuard op t ox oy ax ay; binOp op t ax ay) r := by
    intro h'
    cases op <;> simp only [eqOp, reduceCtorEq] at h'
    · obtain ⟨b, hb, rfl⟩ := Option.map_eq_some_iff.1 h'
      exact .bool hh _ (eqV_run w hx hy hb ox oy).1
    · obtain ⟨b, hb, rfl⟩ := Option.map_eq_some_iff.1 h'
      exact .bool hh _ (eqV_run w hx hy hb ox oy).2
  unfold bin at h
  split at h
  · rename_i k a k' b
    simp only [Rel] at hx hy
    subst hx hy
    refine gen (eqGuard_run _ _ _ _ _ _ _ ⟨by simp, by simp⟩) ?_
    split at h
    · obtain ⟨z, e1, e2⟩ := binI_run C t w (k' := k') (P := P) (.inl rfl) h
      exact .pure hh e1 e2
    · obtain ⟨z, e1, e2⟩ := binI_run C t w (k' := k') (P := P) (.inr (.inl rfl)) h
      exact .pure hh e1 e2
    · split at h
      · rename_i hk
        obtain ⟨z, e1, e2⟩ := binI_run C t w (k' := k') (P := P) (.inr (.inr hk)) h
        exact .pure hh e1 e2
      · cases h
  · rename_i k a k' b
    split at h
    · rename_i hk
      subst hk
      obtain ⟨a', rfl, ha⟩ := hx.fl
      obtain ⟨b', rfl, hb⟩ := hy.fl
      refine gen (eqGuard_run _ _ _ _ _ _ _ ⟨by simp, by simp⟩) (binF_run t hh ha hb h)
    · cases h
  · rename_i a b
    simp only [Rel] at hx hy
    subst hx hy
    refine gen (eqGuard_run _ _ _ _ _ _ _ ⟨by simp, by simp⟩) ?_
    obtain ⟨z, e1, e2⟩ := binS_run C t w (P := P) h
    exact .pure hh e1 e2
  · exact eqs h

/-! ### Conversions -/

theorem conv_run {P : Program} {C : Ctx} {w : World} {src dst : TypeId} {x r : V} {ax : Value} (hx : Rel C x ax) (h : conv P src dst x = some r) :
    ∃ y, (convert src dst ax).run P w = .ok y w ∧ Rel C r y := by
  unfold conv at h
  split at h
  · cases h
  · rename_i u hu
    split at h
    · rename_i k k' n hd
      cases h
      simp only [Rel] at hx ⊢
      subst hx
      exact ⟨_, by cases u <;> simp [convert, run_underlying hu, run_underlying hd, Conv.intToInt], rfl⟩
    · rename_i k k' n hd
      cases h
      simp only [Rel] at hx
      subst hx
      exact ⟨.float k (k.nearest n), by cases u <;> simp [convert, run_underlying hu, run_underlying hd, Conv.intToFloat], by simp [Rel, FloatKind.nearest, FloatKind.encode, k.format.write_lt]⟩
    · rename_i k s b hd
      obtain ⟨b', rfl, hb⟩ := hx.fl
      have he : (s.decode b').toInt .zero = (s.decode b).toInt .zero := by
        rcases hb.cases with rfl | ⟨s1, f1, s2, f2, e1, e2⟩
        · rfl
        · simp only [FloatKind.decode, e1, e2]; rfl
      split at h
      · rename_i n hn
        split at h
        · rename_i hc
          cases h
          simp only [Rel]
          exact ⟨_, by cases u <;> simp [convert, run_underlying hu, run_underlying hd, Conv.floatToInt, he, hn, hc.1, hc.2], rfl⟩
        · cases h
      · cases h
    · rename_i k s b hd
      split at h
      · rename_i hk
        subst hk
        cases h
        have hx' := hx
        obtain ⟨b', rfl, hb⟩ := hx.fl
        exact ⟨_, by cases u <;> simp [convert, run_underlying hu, run_underlying hd, Conv.floatToFloat], hx'⟩
      · cases h
    · rename_i s hd
      split at h
      · cases h
        simp only [Rel] at hx ⊢
        subst hx
        exact ⟨_, by simp [convert, run_underlying hu, run_underlying hd], rfl⟩
      · cases h
    · cases h

/-! ### Fields -/

theorem field_run {P : Program} {C : Ctx} {w : World} {s : TypeId} {x r : V} {ax : Value} {i : Nat} (hx : Rel C x ax) (h : field P s x i = some r) :
    ∃ y, (Instr.field s ax i).run P w = .ok y w ∧ Rel C r y := by
  unfold field at h
  split at h
  · rename_i fs hu
    split at h
    · rename_i fd hf
      split at h
      · rename_i cs
        simp only [Rel] at hx
        obtain ⟨ys, rfl, hx⟩ := hx
        split at h
        · rename_i hl
          split at h
          · rename_i h0
            have hsub := Rels_take (sizeT P fd.type) _ _ (Rels_drop fd.offset _ _ hx)
            have hlen : ((cs.drop fd.offset).take (sizeT P fd.type)).length = sizeT P fd.type := by simp; omega
            unfold pack at h
            split at h
            · rename_i ha
              rw [if_pos hlen] at h
              cases h
              refine ⟨.agg (ys.extract fd.offset (fd.offset + sizeT P fd.type)), by simp [Instr.field, run_underlying hu, hf, part, run_aggT ha, asAgg, run_sizeT h0], ?_⟩
              simp only [Rel]
              refine ⟨_, rfl, ?_⟩
              rw [Array.toList_extract]
              simp only [List.extract_eq_take_drop, Nat.add_sub_cancel_left]
              exact hsub
            · rename_i ha
              split at h
              · rename_i v l hv
                cases h
                rw [hv] at hsub
                simp only [Rels] at hsub
                obtain ⟨y, t, e, hy, _⟩ := hsub
                have : ys[fd.offset]? = some y := by
                  have : ((ys.toList.drop fd.offset).take (sizeT P fd.type))[0]? = some y := by rw [e]; rfl
                  rw [List.getElem?_take, if_pos h0, List.getElem?_drop] at this
                  simpa using this
                exact ⟨y, by simp [Instr.field, run_underlying hu, hf, part, run_aggT ha, asAgg, this], hy⟩
              · cases h
            · cases h
          · cases h
        · cases h
      · cases h
    · cases h
  · cases h

theorem Els_drop {C : Ctx} {S : Addr → Option Value} {sz b : Nat} : ∀ (n : Nat) (l : List V) (o : Nat), Els C S sz b l o → Els C S sz b (l.drop n) (o + n * sz)
  | 0, l, o, h => by simpa using h
  | n + 1, [], o, h => by simp [Els]
  | n + 1, v :: r, o, h => by
    simp only [Els] at h
    have := Els_drop n r (o + sz) h.2
    rw [show o + (n + 1) * sz = o + sz + n * sz by rw [Nat.add_mul]; omega]
    simpa using this

theorem ones_drop {l : List V} (h : ones l = true) (n : Nat) : ones (l.drop n) = true := by
  rw [ones_iff] at *
  intro k v hv
  rw [List.getElem?_drop] at hv
  exact h _ _ hv
theorem plains_drop {l : List V} (h : plains l = true) (n : Nat) : plains (l.drop n) = true := by
  rw [plains_iff] at *
  intro k v hv
  rw [List.getElem?_drop] at hv
  exact h _ _ hv

theorem fieldAddr_run {P : Program} {C : Ctx} {w : World} {s : TypeId} {x r : V} {ax : Value} {i : Nat} (hx : Rel C x ax) (h : fieldAddr P s x i = some r) :
    ∃ y, (Instr.fieldAt s ax i).run P w = .ok y w ∧ Rel C r y := by
  unfold fieldAddr at h
  split at h
  · rename_i fs hu
    split at h
    · rename_i fd hf
      split at h
      · cases h
      · rename_i h0
        have h0' : 0 < sizeT P fd.type := by omega
        have hrun : ∀ b o, (Instr.fieldAt s (.pointer (some ⟨b, o, none⟩)) i).run P w = .ok (.pointer (some ⟨b, o + fd.offset, none⟩)) w := by
          intro b o
          simp [Instr.fieldAt, run_underlying hu, hf, Instr.sureAddr, fieldPlace, run_sizeT h0', h0, Addr.add_mid]
        split at h
        · cases h
          simp only [Rel] at hx ⊢
          obtain ⟨h1, h2, b, h3, rfl⟩ := hx
          exact ⟨_, hrun _ _, h1, h2, b, h3, rfl⟩
        · cases h
          rename_i h' tot k off
          simp only [Rel] at hx ⊢
          obtain ⟨h1, h2, h3, ⟨a, rfl⟩, h5⟩ := hx
          refine ⟨.pointer (some (a.add fd.offset)), by simp [Instr.fieldAt, run_underlying hu, hf, Instr.sureAddr, fieldPlace, run_sizeT h0', h0], h1, h2, h3, ⟨_, rfl⟩, fun ht => ?_⟩
          obtain ⟨b, hb, e⟩ := h5 ht
          cases e
          exact ⟨b, hb, by rw [Addr.add_mid, Nat.add_assoc]⟩
        · cases h
          rename_i cs
          simp only [Rel] at hx ⊢
          obtain ⟨h1, h2, b, o, rfl, h3⟩ := hx
          refine ⟨_, hrun _ _, plains_drop h1 _, ones_drop h2 _, b, _, rfl, ?_⟩
          have := Els_drop fd.offset _ _ h3
          rwa [Nat.mul_one] at this
        · cases h
    · cases h
  · cases h

end Ev
end Go.Proofs.YthpfimildcbgmaaDoor
