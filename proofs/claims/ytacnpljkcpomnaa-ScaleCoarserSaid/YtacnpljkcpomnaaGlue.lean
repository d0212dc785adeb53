/-
The told functions' contracts; the frame of the rows.
-/
import Derived.Test.YtacnpljkcpomnaaLore
import Derived.Test.YtacnpljkcpomnaaEvGlue
import Derived.Test.YtacnpljkcpomnaaShelf
import Derived.Test.YtacnpljkcpomnaaRows
namespace Go.Proofs.Ytacnpljkcpomnaa
open Go Ev Go.RowKit Go.ChangeShapes Go.WideShapes
set_option linter.all false

theorem own : ownKnob Try.prog.godebug = none := by kernel_rfl
theorem laidOut : laidOutB Try.prog = true := by kernel_rfl
theorem ext_run {P : Program} {w : World} {f : FuncId} {fn : Func} {e : Array Value → Sem Value} {args : Array Value} {x : Value} (hf : P.funcs[f]? = some fn) (hname : (fn.name == "runtime.NumGoroutine") = false)
    (hb : fn.body.isNone = true) (hn : Extern.findNext fn = none) (he : Extern.find fn = some e) (hr : (e args).run P w = .ok x w) : (callFunc f args).run P w = .ok (.value x) w := by
  have h1 : fn.name ≠ "runtime.NumGoroutine" := by simpa using hname
  have h2 : fn.body = none := by simpa using hb
  simp [callFunc, hf, h1, h2, hn, he, hr]
theorem rel_int {C : Ctx} {k : IntKind} {n : Int} {x : Value} (h : Rel C (.int k n) x) : x = .int k n := by simpa only [Rel] using h
theorem outer_call {C : Ctx} {H : Heap} {w : World} {f : FuncId} {fn : Func} {e : Array Value → Sem Value} {args : Array Value} {v : V} {x : Value} (hf : Try.prog.funcs[f]? = some fn) (hname : (fn.name == "runtime.NumGoroutine") = false)
    (hb : fn.body.isNone = true) (hn : Extern.findNext fn = none) (he : Extern.find fn = some e) (hr : (e args).run Try.prog w = .ok x w) (hv : Rel C v x) (hh : HRel C H w) : Invokes Try.prog f args w (Ev.Good C w v H) :=
  .inl ⟨x, w, ext_run hf hname hb hn he hr, C, hv, hh, .refl C w⟩
theorem three_ok (name : String) {ka kb kc : IntKind} {x y z : Int} (h : ¬ 1 < z.toNat) (P : Program) (w : World) : (Extern.MathBitsCarry.three name #[.int ka x, .int kb y, .int kc z]).run P w = .ok (x.toNat, y.toNat, z.toNat) w := by
  change (do
    let c := (← asInt (.int kc z)).toNat
    if c > 1 then unsupported (.noEntry ("extern/math/bits." ++ name ++ ": a carry that is neither 0 nor 1"))
    pure ((← asInt (.int ka x)).toNat, (← asInt (.int kb y)).toNat, c) : Sem (Nat × Nat × Nat)).run P w = _
  simp [asInt, asIntOf, h]
  omega
theorem lore_ok (W : World) : LoreOk lore W.heap where
  mixed := follows_mixed
  fns := okf_fns
  ext := fun g k hk l v C H w args hv _ hi hh ha => by
    have hg : (g = 25 ∧ k = outer .bits64) ∨ (g = 42 ∧ k = outer .frombits64) ∨ (g = 46 ∧ k = len64X) ∨ (g = 63 ∧ k = mul64X) ∨ (g = 64 ∧ k = outer .add64) ∨ (g = 70 ∧ k = outer .sub64) := by
      simp only [lore, extOf] at hk
      split at hk
      · exact .inl ⟨rfl, (Option.some.inj hk).symm⟩
      · exact .inr (.inl ⟨rfl, (Option.some.inj hk).symm⟩)
      · exact .inr (.inr (.inl ⟨rfl, (Option.some.inj hk).symm⟩))
      · exact .inr (.inr (.inr (.inl ⟨rfl, (Option.some.inj hk).symm⟩)))
      · exact .inr (.inr (.inr (.inr (.inl ⟨rfl, (Option.some.inj hk).symm⟩))))
      · exact .inr (.inr (.inr (.inr (.inr ⟨rfl, (Option.some.inj hk).symm⟩))))
      · cases hk
    obtain ⟨args⟩ := args
    rcases hg with ⟨rfl, rfl⟩ | ⟨rfl, rfl⟩ | ⟨rfl, rfl⟩ | ⟨rfl, rfl⟩ | ⟨rfl, rfl⟩ | ⟨rfl, rfl⟩
    · unfold outer at hv
      split at hv <;> try (rename_i h_; cases h_; done)
      · rename_i b _
        split at hv
        · rename_i hb
          cases hv
          simp only [Rels, Rel] at ha
          obtain ⟨y, t, rfl, hy, rfl⟩ := ha
          have hy' : y = .float .f64 b := by
            rcases hy with ⟨_, h⟩ | ⟨h, _⟩
            · exact h
            · exfalso
              have : FloatKind.f64.format.width = 64 := rfl
              rw [this] at h
              omega
          subst hy'
          exact outer_call (e := Extern.MathFloatBits.float64bits) (x := .int .u64 b) Try.func25 (by kernel_rfl) (by kernel_rfl) (by kernel_rfl) (by rfl) (by rfl) (by simp only [Rel]) hh
        · cases hv
      all_goals cases hv
    · unfold outer at hv
      split at hv <;> try (rename_i h_; cases h_; done)
      · rename_i n _
        split at hv
        · rename_i hb
          cases hv
          simp only [Rels, Rel] at ha
          obtain ⟨y, t, rfl, rfl, rfl⟩ := ha
          exact outer_call (e := Extern.MathFloatBits.float64frombits) (x := .float .f64 n.toNat) Try.func42 (by kernel_rfl) (by kernel_rfl) (by kernel_rfl) (by rfl) (by rfl) (by
            simp only [Rel]
            refine .inl ⟨?_, trivial⟩
            have : FloatKind.f64.format.width = 64 := rfl
            rw [this]
            omega) hh
        · cases hv
      all_goals cases hv
    · unfold len64X at hv
      split at hv
      · rename_i x
        split at hv
        · rename_i hn
          cases hv
          simp only [Rels, Rel] at ha
          obtain ⟨y, t, rfl, rfl, rfl⟩ := ha
          refine .inr ⟨?_, (Try.bits_Len64 x w hn.1 hn.2).mono ?_⟩
          · show (callFunc 46 _).run Try.prog w = _
            simp [callFunc, Try.func46, Try.f46]
          · rintro e w' ⟨rfl, rfl⟩
            exact ⟨C, by simp only [Rel], hh, .refl C w'⟩
        · cases hv
      · cases hv
    · unfold mul64X at hv
      split at hv
      · rename_i x y
        split at hv
        · rename_i hn
          cases hv
          simp only [Rels, Rel] at ha
          obtain ⟨_, _, rfl, rfl, _, _, rfl, rfl, rfl⟩ := ha
          obtain ⟨⟨h1, h2⟩, h3, h4⟩ := hn
          obtain ⟨a, rfl⟩ := Int.eq_ofNat_of_zero_le h1
          obtain ⟨b, rfl⟩ := Int.eq_ofNat_of_zero_le h3
          refine .inr ⟨?_, (Try.bits_Mul64 a b (by omega) (by omega) w).mono ?_⟩
          · show (callFunc 63 _).run Try.prog w = _
            simp [callFunc, Try.func63, Try.f63]
          · rintro e w' ⟨rfl, rfl⟩
            exact ⟨C, by simp [Rel, Rels], hh, .refl C w'⟩
        · cases hv
      · cases hv
    · unfold outer at hv
      split at hv <;> try (rename_i h_; cases h_; done)
      · rename_i a x b y d z _
        split at hv
        · rename_i hb
          cases hv
          simp only [Rels, Rel] at ha
          obtain ⟨_, _, rfl, rfl, _, _, rfl, rfl, _, _, rfl, rfl, rfl⟩ := ha
          refine outer_call (x := .tuple #[.int .u64 (Int.ofNat ((x.toNat + y.toNat + z.toNat) % 2 ^ 64)), .int .u64 (Int.ofNat ((x.toNat + y.toNat + z.toNat) / 2 ^ 64))]) Try.func64 (by kernel_rfl) (by kernel_rfl) (by kernel_rfl) (by rfl) ?_ (by simp [Rel, Rels]) hh
          have hb' : ¬ 1 < z.toNat := by omega
          simp only [Sem.run_bind, three_ok _ hb', Result.andThen_ok, Sem.run_pure]
          rfl
        · cases hv
      all_goals cases hv
    · unfold outer at hv
      split at hv <;> try (rename_i h_; cases h_; done)
      · rename_i a x b y d z _
        split at hv
        · rename_i hb
          cases hv
          simp only [Rels, Rel] at ha
          obtain ⟨_, _, rfl, rfl, _, _, rfl, rfl, _, _, rfl, rfl, rfl⟩ := ha
          refine outer_call (x := .tuple #[.int .u64 (Int.ofNat ((x.toNat + 2 ^ 64 - y.toNat - z.toNat) % 2 ^ 64)), .int .u64 (Int.ofNat (if x.toNat < y.toNat + z.toNat then 1 else 0))]) Try.func70 (by kernel_rfl) (by kernel_rfl) (by kernel_rfl) (by rfl) ?_ (by simp [Rel, Rels]) hh
          have hb' : ¬ 1 < z.toNat := by omega
          simp only [Sem.run_bind, three_ok _ hb', Result.andThen_ok, Sem.run_pure]
          rfl
        · cases hv
      all_goals cases hv
end Go.Proofs.Ytacnpljkcpomnaa
