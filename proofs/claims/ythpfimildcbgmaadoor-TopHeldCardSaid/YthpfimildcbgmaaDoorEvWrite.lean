/-
A box of one's own that is written in place.
-/
import Derived.Test.YthpfimildcbgmaaDoorEvEff
namespace Go.Proofs.YthpfimildcbgmaaDoor
namespace Ev
set_option linter.all false
open Go

theorem Els_range {C C' : Ctx} (e : Ext C C') {S S' : Addr → Option Value} {sz b : Nat} {l : List V} {o : Nat} (h : Els C S sz b l o)
    (hs : ∀ i v, o ≤ i → i < o + l.length * sz → S ⟨b, i, none⟩ = some v → S' ⟨b, i, none⟩ = some v) : Els C' S' sz b l o := by
  rw [Els_iff] at *
  intro k v hk
  obtain ⟨y, h1, h2⟩ := h k v hk
  have hlt := (List.getElem?_eq_some_iff.1 hk).1
  have hm : (k + 1) * sz ≤ l.length * sz := Nat.mul_le_mul_right _ hlt
  rw [Nat.add_mul] at hm
  exact ⟨y, h1.mono fun i u hi hu => hs (o + k * sz + i) u (by omega) (by omega) hu, Rel.mono e v y h2⟩

theorem Els_append {C : Ctx} {S : Addr → Option Value} {sz b : Nat} : ∀ {l r : List V} {o : Nat}, Els C S sz b l o → Els C S sz b r (o + l.length * sz) → Els C S sz b (l ++ r) o
  | [], r, o, _, h => by simpa using h
  | v :: l, r, o, h, k => by
    simp only [Els] at h
    simp only [List.cons_append, Els]
    refine ⟨h.1, Els_append h.2 ?_⟩
    rw [List.length_cons, Nat.add_mul] at k
    rw [show o + sz + l.length * sz = o + (l.length * sz + 1 * sz) by omega]
    exact k

theorem cell_isSome {w : World} {b i : Nat} {c : Array Value} {e : TypeId} {fz : Nat × Nat} (h : w.heap[b]? = some (.cells c e fz)) (hi : i < c.size) : (w.cell? ⟨b, i, none⟩).isSome = true := by
  simp [World.cell?, h, hi]

theorem HRel.write {C : Ctx} {H : Heap} {w : World} (hh : HRel C H w) {h b off : Nat} {bx bx' : Box} {vs : List Value} (hx : H[h]? = some bx) (ha : (C.at_ h).adr = some b)
    (hfz : bx.fz = true → bx.cs.length * (C.at_ h).sz ≤ off) (hroom : off + vs.length ≤ (C.at_ h).cap * (C.at_ h).sz) (hsz : bx'.sz = bx.sz) (hfz' : bx'.fz = bx.fz) (hlen : bx.cs.length ≤ bx'.cs.length) (hcap : bx'.cs.length ≤ (C.at_ h).cap)
    (h0 : bx.sz = 0 → bx'.cs.length = bx.cs.length) (hpl : bx'.pl = true → plains bx'.cs = true) (hok : okEs bx'.cs = true) (h1 : bx.sz = 0 → ones bx'.cs = true)
    (hels : Els C (w.setCells b off vs).cell? (C.at_ h).sz b bx'.cs 0) :
    HRel (C.upd h (C.at_ h) bx'.cs.length) (H.set h bx') (w.setCells b off vs) ∧ Step C w (C.upd h (C.at_ h) bx'.cs.length) (w.setCells b off vs) := by
  obtain ⟨f1, f2, f3, f4, f5, f6⟩ := heap_setCells b vs off w
  have hk := hh.box h bx hx
  have hk0 := hk
  obtain ⟨k1, k2, k3, k4, k5, k6, k7⟩ := hk
  rw [ha] at k7
  obtain ⟨a1, a2, ⟨c, e, fz, a3, a3'⟩, a4, a5⟩ := k7
  have hext : Ext C (C.upd h (C.at_ h) bx'.cs.length) := C.upd_ext h _ _ (by omega) fun _ => rfl
  refine hh.set hx (fun b' _ hne => f5 b' fun hb => hne (hb ▸ ha)) (Nat.le_of_eq f4.symm) f1 f2 f3 hlen (by rw [hsz]) (fun _ => rfl) (.inl rfl) (fun a v hv => ?_) (fun _ => ⟨hfz', rfl⟩) ?_
  · rw [World.cell?_setCells_out]
    · exact hh.stable a v hv
    · intro hb hs
      obtain ⟨q1, q2⟩ := hh.away h bx b a v hx ha hv hb
      exact .inl (Nat.lt_of_lt_of_le q2 (hfz q1))
  · refine ⟨by simp [Ctx.upd], by simp [Ctx.upd, k2, hsz], hpl, hok, fun hz => h1 (hsz ▸ hz), by simp only [Ctx.upd, if_true]; rw [hsz]; exact k6, ?_⟩
    simp only [Ctx.upd, if_true]
    rw [ha]
    obtain ⟨c', q1, q2⟩ := f6 c e fz a3
    refine ⟨Els.mono hext (fun _ _ _ hv => hv) _ _ hels, hcap, ⟨c', e, fz, q1, by rw [q2]; exact a3'⟩, fun i hi => ?_, fun hz => by rw [h0 (hsz ▸ hz)]; exact a5 (hsz ▸ hz)⟩
    rw [World.frozen?_setCells]
    exact a4 i hi

end Ev
end Go.Proofs.YthpfimildcbgmaaDoor
