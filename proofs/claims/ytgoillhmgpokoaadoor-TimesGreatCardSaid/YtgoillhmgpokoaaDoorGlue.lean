/-
The told function's contract; the frame of the rows.
-/
import Derived.Test.YtgoillhmgpokoaaDoorLore
import Derived.Test.YtgoillhmgpokoaaDoorEvGlue
import Derived.Test.YtgoillhmgpokoaaDoorShelf
import Derived.Test.YtgoillhmgpokoaaDoorRows
import Derived.Test.YtgoillhmgpokoaaDoorCards
import Derived.Test.YtgoillhmgpokoaaDoorTie
import Derived.LaidMore
import Derived.Stop.Joined
import Derived.Stop.LaidErr
import Derived.SevenTiedAt
namespace Go.Proofs.YtgoillhmgpokoaaDoor
open Go Ev Go.RowKit Go.ChangeShapes Go.WideShapes

theorem own : ownKnob Tryd.prog.godebug = none := by kernel_rfl
theorem laidOut : laidOutB Tryd.prog = true := by kernel_rfl

def Tab (W : World) : Prop := Lib.TabIs Tryd.prog W "internal/strconv.uint64pow10" .u64 Lib.pow10Tab
theorem gTab : Tryd.prog.globalNamed "internal/strconv.uint64pow10" = some 2 := by kernel_rfl

theorem laid_tab {W : World} (h : laidMetH Tryd.prog Rows.timesSpansRow.laid W) : Tab W := by
  rw [MakeChecks.laidMetH_plain _ _ _ (by kernel_rfl)] at h
  have h2 := h.tail.tail
  exact Lib.tabIs_of_head (t := 95) (e := 69) (n := 20) gTab (by kernel_rfl) (by kernel_rfl) (by kernel_rfl) (by kernel_rfl) (by kernel_rfl) h2

theorem Tab.later {W w : World} {C : Ctx} (h : Tab W) (hi : Inv W.heap C w) : Tab w := by
  unfold Tab Lib.TabIs at *
  simp only [World.var?, gTab, Option.bind_some] at h ⊢
  have hlt : 2 < W.heap.size := by
    cases e : W.heap[2]? with
    | none => rw [e] at h; cases h
    | some o => exact (Array.getElem?_eq_some_iff.1 e).1
  rw [hi.1 2 hlt]
  exact h

theorem lore_ok {W : World} (h : Tab W) : LoreOk lore W.heap where
  mixed := follows_mixed
  fns := okf_fns
  ext := fun g k hk l v C H w args hv _ hi hh ha => by
    have hg : (g = 34 ∧ k = itoaX) ∨ (g = 51 ∧ k = mul64X) := by
      simp only [lore, extOf] at hk
      split at hk
      · exact .inl ⟨rfl, (Option.some.inj hk).symm⟩
      · exact .inr ⟨rfl, (Option.some.inj hk).symm⟩
      · cases hk
    rcases hg with ⟨rfl, rfl⟩ | ⟨rfl, rfl⟩
    · unfold itoaX at hv
      split at hv
      · rename_i n
        split at hv
        · rename_i hn
          cases hv
          obtain ⟨args⟩ := args
          simp only [Rels, Rel] at ha
          obtain ⟨x, t, rfl, rfl, y, t', rfl, rfl, rfl⟩ := ha
          refine .inr ⟨?_, (Tryd.strconv_FormatInt_10 n hn.1 hn.2 w (h.later hi)).mono ?_⟩
          · show (callFunc 34 _).run Tryd.prog w = _
            simp [callFunc, Tryd.func34, Tryd.f34]
          · rintro e w' ⟨rfl, k, os, rfl⟩
            have he : ∀ b, b < w.heap.size → (Go.Sort.grow (w.drewN k) os).heap[b]? = w.heap[b]? := fun b hb => by
              show (w.heap ++ os)[b]? = _
              rw [Array.getElem?_append_left hb]
            exact ⟨C, by simp only [Rel]; rfl, hh.same he, .same he (by show _ ≤ (w.heap ++ os).size; simp) rfl rfl rfl⟩
        · cases hv
      · cases hv
    · unfold mul64X at hv
      split at hv
      · rename_i x y
        split at hv
        · rename_i hn
          cases hv
          obtain ⟨args⟩ := args
          simp only [Rels, Rel] at ha
          obtain ⟨_, _, rfl, rfl, _, _, rfl, rfl, rfl⟩ := ha
          obtain ⟨⟨h1, h2⟩, h3, h4⟩ := hn
          obtain ⟨a, rfl⟩ := Int.eq_ofNat_of_zero_le h1
          obtain ⟨b, rfl⟩ := Int.eq_ofNat_of_zero_le h3
          refine .inr ⟨?_, (Tryd.bits_Mul64 a b (by omega) (by omega) w).mono ?_⟩
          · show (callFunc 51 _).run Tryd.prog w = _
            simp [callFunc, Tryd.func51, Tryd.f51]
          · rintro e w' ⟨rfl, rfl⟩
            exact ⟨C, by simp [Rel, Rels], hh, .refl C w'⟩
        · cases hv
      · cases hv
end Go.Proofs.YtgoillhmgpokoaaDoor
