/-
The told functions' contracts; the laid variables; how an argument that is a slice opens; the frame of the rows. How an argument that is a slice opens.
-/
import Derived.Test.YtmjdcoacmmmhnaaDoorA9
import Derived.Test.YtmjdcoacmmmhnaaDoorB2
import Derived.Test.YtmjdcoacmmmhnaaDoorEvGlue
import Derived.Test.YtmjdcoacmmmhnaaDoorShelf
import Derived.Test.YtmjdcoacmmmhnaaDoorRows
import Derived.Test.YtmjdcoacmmmhnaaDoorCards
import Derived.Test.YtmjdcoacmmmhnaaDoorTie
import Derived.LaidMore
import Derived.Stop.Joined
import Derived.Stop.LaidErr
import Derived.SevenTiedAt
import Derived.Deep.SlicePairs
import Derived.Lib.LaidTab
namespace Go.Proofs.YtmjdcoacmmmhnaaDoor
open Go Ev
set_option linter.all false
set_option maxHeartbeats 4000000
set_option maxRecDepth 5000
attribute [local irreducible] codeL condL loopL callL callV evOps evDraw rdK effK wayK oneK wayD oneD rdD effD chks chkB res

open Go Ev Go.RowKit Go.ChangeShapes Go.WideShapes
set_option linter.all false

theorem own : ownKnob Tryd.prog.godebug = none := by kernel_rfl
theorem laidOut : laidOutB Tryd.prog = true := by kernel_rfl
theorem gTab : Tryd.prog.globalNamed "math/bits.deBruijn64tab" = some 2 := by kernel_rfl
theorem gCls : Tryd.prog.globalNamed "abacus/chunk.classes" = some 0 := by kernel_rfl

def tab64 : List Int := [0, 1, 56, 2, 57, 49, 28, 3, 61, 58, 42, 50, 38, 29, 17, 4, 62, 47, 59, 36, 45, 43, 51, 22, 53, 39, 33, 30, 24, 18, 12, 5, 63, 55, 48, 27, 60, 41, 37, 16, 46, 35, 44, 21, 52, 32, 23, 11, 54, 26, 40, 15, 34, 20, 31, 10, 25, 14, 19, 9, 13, 8, 7, 6]
theorem els_ints {C : Ctx} {S : Addr → Option Value} {b : Nat} (k : IntKind) (zs : List Int) (h : ∀ i, i < zs.length → S ⟨b, i, none⟩ = some (.int k (zs.getD i 0))) : Els C S 1 b (zs.map (V.int k)) 0 := by
  rw [Els_iff]
  intro i v hv
  rw [List.getElem?_map] at hv
  obtain ⟨z, hz, rfl⟩ := Option.map_eq_some_iff.1 hv
  obtain ⟨hi, rfl⟩ := List.getElem?_eq_some_iff.1 hz
  refine ⟨.int k zs[i], .inr ⟨rfl, rfl, ?_⟩, by simp only [Rel]⟩
  have := h i hi
  rw [show 0 + i * 1 = i by omega, this]
  simp [List.getD, hi]
theorem plains_ints (k : IntKind) : ∀ zs : List Int, plains (zs.map (V.int k)) = true ∧ ones (zs.map (V.int k)) = true
  | [] => ⟨rfl, rfl⟩
  | z :: r => by
    obtain ⟨h1, h2⟩ := plains_ints k r
    constructor
    · show plains (V.int k z :: r.map (V.int k)) = true
      rw [plains, h1]; rfl
    · show ones (V.int k z :: r.map (V.int k)) = true
      rw [ones, h2]; rfl
section
variable {H : Type} {enc : TypeId × Value → H} {P : Program} {w : World} {base : Nat} {sp : Nat → Bool} {held : Bool}
theorem cell_int {t : TypeId} {k : IntKind} {fuel : Nat} {cs : List Value} {o : Nat} {z : Int} {q : List MemPlace} (ht : P.underlying t = some (.int k)) (h : DataW.trod enc P w base sp held fuel t ((cs.drop o).take 1) = some (.lit (.int k z), q)) : cs[o]? = some (.int k z) := by
  obtain ⟨n, hc, hx, _⟩ := DataW.trod_int ht h
  simp only [Prod.mk.injEq, DataW.lit.injEq, Lit.int.injEq, true_and] at hx
  obtain ⟨rfl, _⟩ := hx
  have := congrArg (·[0]?) hc
  simpa [List.getElem?_take, List.getElem?_drop] using this
theorem arr_at {fuel : Nat} {t e : TypeId} {n : Nat} {cs : List Value} {ds : List (DataW H)} {p : List MemPlace} (ht : P.underlying t = some (.array n e))
    (h : DataW.trod enc P w base sp held fuel t cs = some (.agg ds, p)) (i : Nat) (hi : i < n) :
    ∃ fuel' d q, ds[i]? = some d ∧ DataW.trod enc P w base sp held fuel' e ((cs.drop (i * P.cellsOf e)).take (P.cellsOf e)) = some (d, q) := by
  cases fuel with
  | zero => simp [DataW.trod] at h
  | succ fuel =>
    simp only [DataW.trod, ht] at h
    split at h
    · obtain ⟨xs, hm, hx⟩ := Option.map_eq_some_iff.1 h
      obtain ⟨b, hb, hf⟩ := Lib.mapM_at hm i i (by simp [hi])
      have hds : xs.map (·.1) = ds := by
        have := congrArg Prod.fst hx
        simpa using this
      exact ⟨fuel, b.1, b.2, by rw [← hds]; simp [hb], hf⟩
    · cases h
theorem three_at {fuel : Nat} {cs : List Value} {z1 z2 z3 : Int} {q : List MemPlace} {w : World}
    (h : DataW.trod enc Tryd.prog w base sp held fuel 89 cs = some (.agg [.lit (.int .u64 z1), .lit (.int .i64 z2), .lit (.int .i64 z3)], q)) : cs[0]? = some (.int .u64 z1) ∧ cs[1]? = some (.int .i64 z2) ∧ cs[2]? = some (.int .i64 z3) := by
  obtain ⟨xs, n, rfl, hx, hl, hxl, hall⟩ := DataW.trod_struct Tryd.underlying89 h
  have hxs : xs.map (·.1) = [.lit (.int .u64 z1), .lit (.int .i64 z2), .lit (.int .i64 z3)] := by
    have := congrArg Prod.fst hx
    simpa using this.symm
  match xs, hxs with
  | [x1, x2, x3], hxs =>
    simp only [List.map_cons, List.map_nil, List.cons.injEq, and_true] at hxs
    obtain ⟨e1, e2, e3⟩ := hxs
    have c58 : Tryd.prog.cellsOf 58 = 1 := by kernel_rfl
    have c3 : Tryd.prog.cellsOf 3 = 1 := by kernel_rfl
    have g1 := hall 0 _ rfl
    have g2 := hall 1 _ rfl
    have g3 := hall 2 _ rfl
    simp only [c58, c3, List.getElem?_cons_zero, List.getElem?_cons_succ] at g1 g2 g3
    obtain ⟨x1a, x1b⟩ := x1
    obtain ⟨x2a, x2b⟩ := x2
    obtain ⟨x3a, x3b⟩ := x3
    simp only at e1 e2 e3
    subst e1 e2 e3
    exact ⟨cell_int Tryd.underlying58 g1, cell_int Tryd.underlying3 g2, cell_int Tryd.underlying3 g3⟩
end
theorem grel {W : World} (h : laidMetH Tryd.prog Rows.chunkBackRow.laid W) : GRel lore.toEnv (C0 W) := by
  rw [MakeChecks.laidMetH_plain _ _ _ (by kernel_rfl)] at h
  have ht : Lib.TabIs Tryd.prog W "math/bits.deBruijn64tab" .u8 tab64 := Lib.tabIs_of_head (t := 100) (e := 5) (n := 64) gTab (by kernel_rfl) Tryd.underlying100 Tryd.underlying5 (by kernel_rfl) (by kernel_rfl) h
  have h2 := h.tail
  obtain ⟨ps, ⟨g', t', cs, fuel, p, q, hg', ht', hvar, hd, _, _⟩, _⟩ := h2
  obtain rfl := Option.some.inj (gCls.symm.trans hg')
  obtain rfl := Option.some.inj ((show (Tryd.prog.globals[0]?).map (·.type) = some 90 by kernel_rfl).symm.trans ht')
  have c89 : Tryd.prog.cellsOf 89 = 3 := by kernel_rfl
  have key : ∀ i z1 z2 z3, i < 3 → ([.agg [.lit (.int .u64 2), .lit (.int .i64 2), .lit (.int .i64 14)], .agg [.lit (.int .u64 6), .lit (.int .i64 3), .lit (.int .i64 17)], .agg [.lit (.int .u64 14), .lit (.int .i64 4), .lit (.int .i64 20)]] : List (DataW Unit))[i]? = some (.agg [.lit (.int .u64 z1), .lit (.int .i64 z2), .lit (.int .i64 z3)]) →
      W.cell? ⟨0, i * 3, none⟩ = some (.int .u64 z1) ∧ W.cell? ⟨0, i * 3 + 1, none⟩ = some (.int .i64 z2) ∧ W.cell? ⟨0, i * 3 + 2, none⟩ = some (.int .i64 z3) := by
    intro i z1 z2 z3 hi hz
    obtain ⟨f', d, q', hdi, he⟩ := arr_at Tryd.underlying90 hd i hi
    rw [hz] at hdi
    cases hdi
    rw [c89] at he
    obtain ⟨k1, k2, k3⟩ := three_at he
    simp only [List.getElem?_take, List.getElem?_drop] at k1 k2 k3
    refine ⟨?_, ?_, ?_⟩
    · rw [World.var?_cell hg' hvar (i * 3), ← Array.getElem?_toList]; simpa using k1
    · rw [World.var?_cell hg' hvar (i * 3 + 1), ← Array.getElem?_toList]; simpa using k2
    · rw [World.var?_cell hg' hvar (i * 3 + 2), ← Array.getElem?_toList]; simpa using k3
  obtain ⟨a0, a1, a2⟩ := key 0 2 2 14 (by decide) rfl
  obtain ⟨b0, b1, b2⟩ := key 1 6 3 17 (by decide) rfl
  obtain ⟨c0, c1, c2⟩ := key 2 14 4 20 (by decide) rfl
  intro g gs hg
  have hgg : (g = 0 ∧ gs = [.int .u64 2, .int .i64 2, .int .i64 14, .int .u64 6, .int .i64 3, .int .i64 17, .int .u64 14, .int .i64 4, .int .i64 20]) ∨ (g = 2 ∧ gs = tab64.map (V.int .u8)) := by
    simp only [lore, globOf] at hg
    split at hg
    · exact .inl ⟨rfl, (Option.some.inj hg).symm⟩
    · exact .inr ⟨rfl, (Option.some.inj hg).symm⟩
    · cases hg
  rcases hgg with ⟨rfl, rfl⟩ | ⟨rfl, rfl⟩
  · refine ⟨rfl, rfl, ?_⟩
    have one : ∀ (k : IntKind) (z : Int) (o : Nat), W.cell? ⟨0, o, none⟩ = some (.int k z) → ∃ y, ElemAt (C0 W).S 1 0 o y ∧ Rel (C0 W) (V.int k z) y := fun k z o h => ⟨.int k z, .inr ⟨rfl, rfl, h⟩, by simp only [Rel]⟩
    simp only [Els]
    exact ⟨one _ _ _ a0, one _ _ _ a1, one _ _ _ a2, one _ _ _ b0, one _ _ _ b1, one _ _ _ b2, one _ _ _ c0, one _ _ _ c1, one _ _ _ c2, trivial⟩
  · obtain ⟨p1, p2⟩ := plains_ints .u8 tab64
    exact ⟨p1, p2, els_ints .u8 tab64 fun i hi => ht.cell gTab i hi⟩
theorem ext_run {P : Program} {w : World} {f : FuncId} {fn : Func} {e : Array Value → Sem Value} {args : Array Value} {x : Value} (hf : P.funcs[f]? = some fn) (hname : (fn.name == "runtime.NumGoroutine") = false)
    (hb : fn.body.isNone = true) (hn : Extern.findNext fn = none) (he : Extern.find fn = some e) (hr : (e args).run P w = .ok x w) : (callFunc f args).run P w = .ok (.value x) w := by
  have h1 : fn.name ≠ "runtime.NumGoroutine" := by simpa using hname
  have h2 : fn.body = none := by simpa using hb
  simp [callFunc, hf, h1, h2, hn, he, hr]
theorem outer_call {C : Ctx} {H : Heap} {w : World} {f : FuncId} {fn : Func} {e : Array Value → Sem Value} {args : Array Value} {v : V} {x : Value} (hf : Tryd.prog.funcs[f]? = some fn) (hname : (fn.name == "runtime.NumGoroutine") = false)
    (hb : fn.body.isNone = true) (hn : Extern.findNext fn = none) (he : Extern.find fn = some e) (hr : (e args).run Tryd.prog w = .ok x w) (hv : Rel C v x) (hh : HRel C H w) : Invokes Tryd.prog f args w (Ev.Good C w v H) :=
  .inl ⟨x, w, ext_run hf hname hb hn he hr, C, hv, hh, .refl C w⟩
theorem lore_ok (W : World) : LoreOk lore W.heap where
  mixed := follows_mixed
  fns := okf_fns
  ext := fun g k hk l v C H w args hv _ hi hh ha => by
    have hg : (g = 30 ∧ k = outer .frombits64) ∨ (g = 48 ∧ k = outer .bits64) ∨ (g = 57 ∧ k = len64X) := by
      simp only [lore, extOf] at hk
      split at hk
      · exact .inl ⟨rfl, (Option.some.inj hk).symm⟩
      · exact .inr (.inl ⟨rfl, (Option.some.inj hk).symm⟩)
      · exact .inr (.inr ⟨rfl, (Option.some.inj hk).symm⟩)
      · cases hk
    obtain ⟨args⟩ := args
    rcases hg with ⟨rfl, rfl⟩ | ⟨rfl, rfl⟩ | ⟨rfl, rfl⟩
    · unfold outer at hv
      split at hv <;> try (rename_i h_; cases h_; done)
      · rename_i n _
        split at hv
        · rename_i hb
          cases hv
          simp only [Rels, Rel] at ha
          obtain ⟨y, t, rfl, rfl, rfl⟩ := ha
          exact outer_call (e := Extern.MathFloatBits.float64frombits) (x := .float .f64 n.toNat) Tryd.func30 (by kernel_rfl) (by kernel_rfl) (by kernel_rfl) (by rfl) (by rfl) (by
            simp only [Rel]
            refine .inl ⟨?_, trivial⟩
            have : FloatKind.f64.format.width = 64 := rfl
            rw [this]
            omega) hh
        · cases hv
      all_goals cases hv
    · unfold outer at hv
      split at hv <;> try (rename_i h_; cases h_; done)
      · rename_i b _
        split at hv
        · rename_i hb
          cases hv
          simp only [Rels, Rel] at ha
          obtain ⟨y, t, rfl, hy, rfl⟩ := ha
          have hy' : y = .float .f64 b := by
            rcases hy with ⟨_, h⟩ | ⟨h, _⟩
            · exact h
            · exfalso
              have : FloatKind.f64.format.width = 64 := rfl
              rw [this] at h
              omega
          subst hy'
          exact outer_call (e := Extern.MathFloatBits.float64bits) (x := .int .u64 b) Tryd.func48 (by kernel_rfl) (by kernel_rfl) (by kernel_rfl) (by rfl) (by rfl) (by simp only [Rel]) hh
        · cases hv
      all_goals cases hv
    · unfold len64X at hv
      split at hv
      · rename_i x
        split at hv
        · rename_i hn
          cases hv
          simp only [Rels, Rel] at ha
          obtain ⟨y, t, rfl, rfl, rfl⟩ := ha
          refine .inr ⟨?_, (Tryd.bits_Len64 x w hn.1 hn.2).mono ?_⟩
          · show (callFunc 57 _).run Tryd.prog w = _
            simp [callFunc, Tryd.func57, Tryd.f57]
          · rintro e w' ⟨rfl, rfl⟩
            exact ⟨C, by simp only [Rel], hh, .refl C w'⟩
        · cases hv
      · cases hv

open Go Ev Go.RowKit Go.ChangeShapes Go.WideShapes
set_option linter.all false
section
variable {H : Type} {enc : TypeId × Value → H} {W : World} {base : Nat}

theorem okEs_enc8 : ∀ l, okEs (enc8 l) = true
  | [] => rfl
  | x :: r => by
    show okEs (.int .u8 x :: enc8 r) = true
    rw [okEs, okEs_enc8 r]; rfl
theorem okEs_encD : ∀ l, okEs (encD l) = true
  | [] => rfl
  | x :: r => by
    show okEs (.agg [.int .i64 x.1, .fl .f64 x.2] :: encD r) = true
    rw [okEs, okEs_encD r]; rfl
theorem plains_e8 : ∀ l, plains (enc8 l) = true
  | [] => rfl
  | x :: r => by
    show plains (.int .u8 x :: enc8 r) = true
    rw [plains, plains_e8 r]; rfl
theorem plains_eD : ∀ l, plains (encD l) = true
  | [] => rfl
  | x :: r => by
    show plains (.agg [.int .i64 x.1, .fl .f64 x.2] :: encD r) = true
    rw [plains, plains_eD r]; rfl
theorem slice_ok {t e : TypeId} {P : Program} {r : Reach} {a : Addr} {len cap : Nat} (ht : P.underlying t = some (.slice e)) (h : Value.okWide P W r base t (.slice (some a) len cap)) : a.spot = none ∧ len ≤ cap := by
  simp only [Value.okWide, ht, Cell.okWide, Cell.ok] at h
  exact ⟨h.2.2.2.1, h.1⟩
theorem cells_slice {a : Option Addr} {len cap : Nat} : (Value.slice a len cap).cells.toList = [.slice a len cap] := rfl
theorem open_b {v : Value} {d : DataW H} {p : List MemPlace} (hval : Value.okWide Tryd.prog W .any base 23 v) (h : DataW.Trod enc Tryd.prog W 0 (fun _ => true) true 23 v d p) :
    ∃ l : List Int, Us8 l ∧ Rel (C0 W) (.sl (enc8 l) 1 false) v ∧ ((DataW.weights Tryd.prog 23 d).all (fun n => decide (n ≤ reachBytes)) = true → l.length ≤ 200000000000000) ∧ (d = .nil ∧ l = [] ∨ ∃ sp, d = .slice (l.map fun z => .lit (.int .u8 z)) sp) := by
  obtain ⟨a1, len, cap, rfl⟩ := okWide_slice Tryd.underlying23 hval
  obtain ⟨fuel, hf⟩ := h
  rcases open_ints Tryd.underlying23 Tryd.underlying5 (show Tryd.prog.cellsOf 5 = 1 by kernel_rfl) hf with ⟨hcs, hx⟩ | ⟨a, len', cap', zs, hcs, _, hl, hm, hz, hx, hcell, hwz⟩
  · rw [cells_slice] at hcs
    simp only [List.cons.injEq, Value.slice.injEq, and_true] at hcs
    obtain ⟨rfl, rfl, rfl⟩ := hcs
    simp only [Prod.mk.injEq] at hx
    obtain ⟨rfl, rfl⟩ := hx
    refine ⟨[], fun x hx => by simp at hx, ?_, fun _ => by simp, Or.inl ⟨rfl, rfl⟩⟩
    simp only [Rel]
    exact ⟨rfl, rfl, by decide, none, 0, rfl, Nat.le_refl _, (fun h => by cases h), Or.inl ⟨rfl, rfl⟩⟩
  · rw [cells_slice] at hcs
    simp only [List.cons.injEq, Value.slice.injEq, and_true] at hcs
    obtain ⟨rfl, rfl, rfl⟩ := hcs
    simp only [Prod.mk.injEq] at hx
    obtain ⟨rfl, rfl⟩ := hx
    simp only [if_true] at hz
    obtain ⟨ab, ao, spot⟩ := a
    obtain ⟨hsp, _⟩ := slice_ok Tryd.underlying23 hval
    simp only at hsp
    subst hsp
    have hlen : (zs.take len).length = len := by simp; omega
    refine ⟨zs.take len, fun x hx => ?_, ?_, fun hw => ?_, Or.inr ⟨_, rfl⟩⟩
    · have := hwz x (List.mem_of_mem_take hx)
      simp only [Lit.wf, Bool.and_eq_true, decide_eq_true_eq] at this
      have e1 : IntKind.u8.min = 0 := rfl
      have e2 : IntKind.u8.max = 255 := rfl
      rw [e1, e2] at this
      omega
    · simp only [Rel]
      refine ⟨plains_e8 _, okEs_enc8 _, by decide, some ⟨ab, ao, none⟩, cap, by rw [enc8_len, hlen], by rw [enc8_len, hlen]; exact hl, (fun h => by cases h), Or.inr ⟨ab, ao, rfl, ?_⟩⟩
      rw [Els_iff]
      intro k v hv
      unfold enc8 at hv
      rw [List.getElem?_map] at hv
      obtain ⟨z, hz2, rfl⟩ := Option.map_eq_some_iff.1 hv
      obtain ⟨hk, hz3⟩ := List.getElem?_eq_some_iff.1 hz2
      have hk2 : k < len := by rw [hlen] at hk; exact hk
      have hc := hcell k (by omega)
      rw [Addr.add_lit] at hc
      refine ⟨.int .u8 z, .inr ⟨rfl, rfl, ?_⟩, by simp only [Rel]⟩
      have e : zs.getD k 0 = z := by
        rw [← hz3, List.getElem_take]
        simp [List.getD, List.getElem?_eq_getElem (show k < zs.length by omega)]
      rw [Nat.mul_one, ← e]
      exact hc
    · simp only [DataW.weights, Tryd.underlying23, List.all_cons, Bool.and_eq_true, decide_eq_true_eq] at hw
      have hb : Tryd.prog.bytesOf 5 = 1 := by kernel_rfl
      have hr : reachBytes = 140737488351232 := rfl
      have hll : (lits (H := H) .u8 (zs.take len)).length = len := by simp [lits]; omega
      rw [hb, hr, hll] at hw
      rw [hlen]
      omega
theorem cell_flt {P : Program} {w : World} {t : TypeId} {k : FloatKind} {fuel : Nat} {v : Value} {x : DataW H × List MemPlace} {sp : Nat → Bool} {held : Bool} (ht : P.underlying t = some (.float k)) (h : DataW.trod enc P w base sp held fuel t [v] = some x) : ∃ b, v = .float k b ∧ x = (.lit (.float k b), []) ∧ (Lit.float k b).wf = true := by
  cases fuel with
  | zero => simp [DataW.trod] at h
  | succ n =>
    unfold DataW.trod at h
    rw [ht] at h
    split at h <;> simp_all
def intOf : Value → Int
  | .int _ n => n
  | _ => 0
def fltOf : Value → Nat
  | .float _ n => n
  | _ => 0
theorem open_d {v : Value} {d : DataW H} {p : List MemPlace} (hval : Value.okWide Tryd.prog W .any base 22 v) (h : DataW.Trod enc Tryd.prog W 0 (fun _ => true) true 22 v d p) :
    ∃ l : List (Int × Nat), DotsOk l ∧ Rel (C0 W) (.sl (encD l) 2 false) v ∧ (d = .nil ∧ l = [] ∨ ∃ sp, d = .slice (l.map fun q => .agg [.lit (.int .i64 q.1), .lit (.float .f64 q.2)]) sp) := by
  obtain ⟨a1, len, cap, rfl⟩ := okWide_slice Tryd.underlying22 hval
  obtain ⟨fuel, hf⟩ := h
  rcases Deep.open_slice_pairs Tryd.underlying22 Tryd.underlying39 (show Tryd.prog.cellsOf 39 = 2 by kernel_rfl) rfl rfl (show Tryd.prog.cellsOf 2 = 1 by kernel_rfl) (show Tryd.prog.cellsOf 37 = 1 by kernel_rfl) hf with ⟨hcs, hx⟩ | ⟨a, len', cap', m, n, V0, V1, D0, D1, P0, P1, hcs, _, hl, hm, hz, hx, hcell⟩
  · rw [cells_slice] at hcs
    simp only [List.cons.injEq, Value.slice.injEq, and_true] at hcs
    obtain ⟨rfl, rfl, rfl⟩ := hcs
    simp only [Prod.mk.injEq] at hx
    obtain ⟨rfl, rfl⟩ := hx
    refine ⟨[], fun x hx => by simp at hx, ?_, Or.inl ⟨rfl, rfl⟩⟩
    simp only [Rel]
    exact ⟨rfl, rfl, by decide, none, 0, rfl, Nat.le_refl _, (fun h => by cases h), Or.inl ⟨rfl, rfl⟩⟩
  · rw [cells_slice] at hcs
    simp only [List.cons.injEq, Value.slice.injEq, and_true] at hcs
    obtain ⟨rfl, rfl, rfl⟩ := hcs
    simp only [Prod.mk.injEq] at hx
    obtain ⟨rfl, rfl⟩ := hx
    simp only [if_true] at hz
    obtain ⟨ab, ao, spot⟩ := a
    obtain ⟨hsp, _⟩ := slice_ok Tryd.underlying22 hval
    simp only at hsp
    subst hsp
    have each : ∀ i, i < cap → V0 i = .int .i64 (intOf (V0 i)) ∧ D0 i = .lit (.int .i64 (intOf (V0 i))) ∧ V1 i = .float .f64 (fltOf (V1 i)) ∧ D1 i = .lit (.float .f64 (fltOf (V1 i))) ∧ (-9223372036854775808 ≤ intOf (V0 i) ∧ intOf (V0 i) ≤ 9223372036854775807) ∧ fltOf (V1 i) < 2 ^ 64 ∧ W.cell? ⟨ab, ao + i * 2, none⟩ = some (V0 i) ∧ W.cell? ⟨ab, ao + (i * 2 + 1), none⟩ = some (V1 i) := by
      intro i hi
      obtain ⟨c0, c1, t0, t1⟩ := hcell i (by omega)
      rw [Addr.add_lit] at c0 c1
      obtain ⟨z, hz, hd, hw⟩ := DataW.trod_int Tryd.underlying2 t0
      obtain ⟨b, hb, hd2, hw2⟩ := cell_flt Tryd.underlying37 t1
      simp only [List.cons.injEq, and_true] at hz
      simp only [Prod.mk.injEq] at hd hd2
      simp only [Lit.wf, Bool.and_eq_true, decide_eq_true_eq] at hw hw2
      have e1 : IntKind.i64.min = -9223372036854775808 := rfl
      have e2 : IntKind.i64.max = 9223372036854775807 := rfl
      rw [e1, e2] at hw
      have z1 : intOf (V0 i) = z := by rw [hz]; rfl
      have b1 : fltOf (V1 i) = b := by rw [hb]; rfl
      rw [z1, b1]
      exact ⟨hz, hd.1, hb, hd2.1, hw, hw2, c0, c1⟩
    have hget : ∀ (k : Nat) (q : Int × Nat), ((List.range len).map fun i => (intOf (V0 i), fltOf (V1 i)))[k]? = some q → k < len ∧ q = (intOf (V0 k), fltOf (V1 k)) := by
      intro k q hq
      rw [List.getElem?_map] at hq
      obtain ⟨j, hj, rfl⟩ := Option.map_eq_some_iff.1 hq
      obtain ⟨hk, hj2⟩ := List.getElem?_eq_some_iff.1 hj
      simp at hk hj2
      subst hj2
      exact ⟨hk, rfl⟩
    have hlen : ((List.range len).map fun i => (intOf (V0 i), fltOf (V1 i))).length = len := by simp
    refine ⟨(List.range len).map fun i => (intOf (V0 i), fltOf (V1 i)), fun q hq => ?_, ?_, Or.inr ⟨(List.range (m - len)).map fun j => .agg [D0 (len + j), D1 (len + j)], ?_⟩⟩
    · obtain ⟨i, hi, rfl⟩ := List.mem_map.1 hq
      have hi2 := List.mem_range.1 hi
      obtain ⟨_, _, _, _, e1, e2, _⟩ := each i (by omega)
      exact ⟨e1, e2⟩
    · simp only [Rel]
      refine ⟨plains_eD _, okEs_encD _, by decide, some ⟨ab, ao, none⟩, cap, by rw [encD_len, hlen], by rw [encD_len, hlen]; exact hl, (fun h => by cases h), Or.inr ⟨ab, ao, rfl, ?_⟩⟩
      rw [Els_iff]
      intro k v hv
      unfold encD at hv
      rw [List.getElem?_map] at hv
      obtain ⟨q, hq, rfl⟩ := Option.map_eq_some_iff.1 hv
      obtain ⟨hk, rfl⟩ := hget k q hq
      obtain ⟨e1, e2, e3, e4, e5, e6, e7, e8⟩ := each k (by omega)
      refine ⟨.agg #[V0 k, V1 k], .inl ⟨#[V0 k, V1 k], rfl, rfl, fun i v hi => ?_⟩, ?_⟩
      · match i, hi with
        | 0, hi =>
          simp at hi
          subst hi
          exact e7
        | 1, hi =>
          simp at hi
          subst hi
          exact e8
        | i + 2, hi => simp at hi
      · simp only [Rel, Rels]
        refine ⟨#[V0 k, V1 k], rfl, V0 k, [V1 k], rfl, e1, V1 k, [], rfl, Or.inl ⟨?_, e3⟩, rfl⟩
        have : FloatKind.f64.format.width = 64 := rfl
        rw [this]
        exact e6
    · congr 1
      rw [List.map_map]
      apply List.map_congr_left
      intro i hi
      have hi2 := List.mem_range.1 hi
      obtain ⟨e1, e2, e3, e4, _⟩ := each i (by omega)
      simp only [Function.comp, e2, e4]
end
end Go.Proofs.YtmjdcoacmmmhnaaDoor
