/-
Strings as lists of bytes; loops by their number; what 'simp' needs besides.
-/
import Derived.Test.YthpfimildcbgmaaDoorEvSim
import Derived.Laws.Strings
namespace Go.Proofs.YthpfimildcbgmaaDoor
namespace Ev
set_option linter.all false
open Go

def bs (l : List UInt8) : ByteArray := ⟨l.toArray⟩

theorem bs_size (l : List UInt8) : (bs l).size = l.length := by simp [bs, ByteArray.size]
theorem bs_data (l : List UInt8) : (bs l).data.toList = l := by simp [bs]
theorem bs_of (s : ByteArray) : bs s.data.toList = s := by cases s; simp [bs]
theorem mk_bs (l : List UInt8) : (⟨l.toArray⟩ : ByteArray) = bs l := rfl
theorem bs_inj {a b : List UInt8} (h : bs a = bs b) : a = b := by
  have := congrArg (fun s => s.data.toList) h
  simpa [bs] using this
theorem bs_append (a b : List UInt8) : bs a ++ bs b = bs (a ++ b) := by
  apply ByteArray.ext
  simp [bs]
theorem bs_extract (l : List UInt8) (i j : Nat) : (bs l).extract i j = bs ((l.take j).drop i) := by
  apply ByteArray.ext
  simp only [bs, ByteArray.data_extract]
  rw [List.extract_toArray]
  simp [List.drop_take]
theorem bs_get (l : List UInt8) (i : Nat) : (bs l).data[i]? = l[i]? := by simp [bs]
theorem bs_toList (l : List UInt8) : (bs l).toList = l := by
  rw [ByteArray.toList_eq]
  simp [bs]

/-- An answer without its boxes. -/
def outV (x : Res) : Option V := x.map (·.1)
theorem outV_some {v : V} {h : Heap} : outV (some (v, h)) = some v := rfl
theorem gives_out {E : Lore} {d f : Nat} {as : List V} {v : V} (h : outV (evCall E d f as []) = some v) (hp : v.plain = true) : Gives E d f as v := by
  unfold outV at h
  obtain ⟨⟨v', H⟩, h1, rfl⟩ := Option.map_eq_some_iff.1 h
  exact ⟨v', H, h1, give_plain H hp⟩

/-- The loop with this number. -/
def loopAt (k : Nat) : Code → Option Code
  | .loop a => if codeKey a = k then some a else loopAt k a
  | .seq a b => (match loopAt k a with | some x => some x | none => loopAt k b)
  | .cond _ a b => (match loopAt k a with | some x => some x | none => loopAt k b)
  | .block _ a => loopAt k a
  | .scope a => loopAt k a
  | _ => none
def loopIn (P : Program) (f k : Nat) : Option Code := ((P.funcs[f]?).bind (·.body)).bind (loopAt k)

section
variable (P : Program) (h : Heap)
theorem lenV_str {t : TypeId} (hu : P.underlying t = some .string) (l : List UInt8) : lenV P h t (.str (bs l)) = some (.int .i64 (l.length : Int)) := by
  simp [lenV, hu, bs_size]
theorem index_str {t : TypeId} (hu : P.underlying t = some .string) (l : List UInt8) (i : Nat) (hi : i < l.length) : index P t (.str (bs l)) (i : Int) = some (.int .u8 ((l[i]'hi).toNat : Int)) := by
  have h1 : ((i : Int) < ((bs l).size : Int)) := by rw [bs_size]; omega
  simp only [index, hu, if_pos (And.intro (Int.natCast_nonneg i) h1), Int.toNat_natCast, bs_get, List.getElem?_eq_getElem hi, Option.getD_some]
end

end Ev
end Go.Proofs.YthpfimildcbgmaaDoor
