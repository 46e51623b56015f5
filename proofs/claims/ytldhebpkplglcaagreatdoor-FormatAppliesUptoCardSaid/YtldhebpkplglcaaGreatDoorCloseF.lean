/- The closing of a card of chapter 20 over texts and bools: its arguments opened, the tables read off the list, a world for the witness. -/
import Derived.Test.YtldhebpkplglcaaGreatDoorRows
import Derived.Test.YtldhebpkplglcaaGreatDoorMo
import Derived.Test.YtldhebpkplglcaaGreatDoorShelf
import Derived.Test.YtldhebpkplglcaaGreatDoorFe
import Derived.ChangeArms
import Derived.Lib.LaidU8
import Derived.Shelf.Vars
namespace Go.Proofs.YtldhebpkplglcaaGreatDoor
open Go.RowKit Go.ChangeShapes Go.WideShapes Go.ChangeAt Go.Joins

theorem bulkF_part {H : Type} {d : DataW H} : ∀ {l : List (DataW H)}, d ∈ l → Rows.uptoBulk d ≤ Rows.uptoBulkAll l
  | x :: r, h => by
    simp only [Rows.uptoBulkAll]
    rcases List.mem_cons.1 h with e | e
    · subst e; omega
    · have := bulkF_part e; omega
section
variable {H : Type} {enc : TypeId × Value → H}
set_option maxRecDepth 100000 in
theorem open_strF {r : Reach} {b0 : Nat} {W : World} {v : Value} {d : DataW H} {p : List MemPlace} (hv : Value.okWide Tryz.prog W r b0 9 v) (h : DataW.Trod enc Tryz.prog W 0 (fun _ => true) true 9 v d p) :
    ∃ (s : List UInt8), v = .string ⟨s.toArray⟩ ∧ (Rows.uptoBulk d ≤ 1048576 → s.length + 1 ≤ 1048576) := by
  obtain ⟨s, rfl, rfl, rfl, ws⟩ := Go.ChangeMaps.open_string Tryz.underlying9 hv h
  refine ⟨s.data.toList, rfl, fun hk => ?_⟩
  have h2 : s.data.toList.length + 1 = Rows.uptoBulk (H := H) (.lit (.string s.data.toList)) := by simp [Rows.uptoBulk]
  omega
set_option maxRecDepth 100000 in
theorem open_boolF {r : Reach} {b0 : Nat} {W : World} {v : Value} {d : DataW H} {p : List MemPlace} (hv : Value.okWide Tryz.prog W r b0 4 v) (h : DataW.Trod enc Tryz.prog W 0 (fun _ => true) true 4 v d p) :
    ∃ b : Bool, v = .bool b := by
  obtain ⟨b, rfl, _⟩ := open_bool Tryz.underlying4 hv h
  exact ⟨b, rfl⟩
end

/-- The list gives the tables. -/
theorem tabs_ofF {l : List (String × DataW Unit)} {W : World} (h : laidMetH Tryz.prog l W)
    (hf : (l.filter fun x => x.1 == "internal/strconv.uint64pow10") = [("internal/strconv.uint64pow10", Lib.tabData .u64 Lib.pow10Tab)])
    (h1 : (l.filter fun x => x.1 == "unicode/utf8.first") = [("unicode/utf8.first", Lib.firstData)])
    (h2 : (l.filter fun x => x.1 == "unicode/utf8.acceptRanges") = [("unicode/utf8.acceptRanges", Lib.acceptData)]) : Tabs W := by
  refine ⟨?_, pow_of h hf⟩
  have k1 := (laidMetH_iff.1 (h.filter fun x => x.1 == "unicode/utf8.first")).1
  have k2 := (laidMetH_iff.1 (h.filter fun x => x.1 == "unicode/utf8.acceptRanges")).1
  rw [h1] at k1
  rw [h2] at k2
  first
  | exact utf8Tabs_of_reads (ρ := Tryz.lays260_ren) Tryz.lays260 ⟨by kernel_rfl, by kernel_rfl, by kernel_rfl, by kernel_rfl, by kernel_rfl, by kernel_rfl, by kernel_rfl⟩
      (Lib.laidMet.reads (l := [("unicode/utf8.first", Lib.firstData)]) k1 (.head _)) (Lib.laidMet.reads (l := [("unicode/utf8.acceptRanges", Lib.acceptData)]) k2 (.head _))
  | exact utf8Tabs_of_reads (ρ := Tryz.lays197_ren) { Tryz.lays197 with } ⟨by kernel_rfl, by kernel_rfl, by kernel_rfl, by kernel_rfl, by kernel_rfl, by kernel_rfl, by kernel_rfl⟩
      (Lib.laidMet.reads (l := [("unicode/utf8.first", Lib.firstData)]) k1 (.head _)) (Lib.laidMet.reads (l := [("unicode/utf8.acceptRanges", Lib.acceptData)]) k2 (.head _))
theorem mx_of {W : World} (h : W.ShapedOpen Tryz.prog) : Mx W :=
  cell_of_shapedOpen_int (P := Tryz.prog) (g := 0) (t := 3) (zero := #[.int .i64 0]) h (of_decide_eq_true (by kernel_rfl)) (by kernel_rfl) rfl (by kernel_rfl) (by kernel_rfl) Tryz.underlying3

noncomputable def laidWorldF (os : Os) : World :=
  let N := (World.settled Tryz.prog os).heap.size
  let w0 := World.holding Tryz.prog os ⟨#[.cells #[errText Rows.laid_bytes_ErrTooLarge] 307], #[], []⟩
  let h0 := put w0.heap 3 #[.iface 279 (.pointer (some ⟨N, 0, none⟩))]
  let h1 := put h0 4 (vals2 Rows.laid_internal_strconv_uint64pow10)
  let h2 := put h1 1 (vals2 Rows.laid_unicode_utf8_first)
  let h3 := put h2 2 (vals2 Rows.laid_unicode_utf8_acceptRanges)
  let h4 := put h3 5 (vals2 Rows.laid_math_bits_deBruijn32tab)
  let h5 := put h4 6 (vals2 Rows.laid_math_bits_deBruijn64tab)
  { w0 with heap := h5 }

end Go.Proofs.YtldhebpkplglcaaGreatDoor
