/- Acts as an argument. -/
import Derived.Test.YtdnoeahhidmkbaaDoorWlActs
namespace Go.Proofs.YtdnoeahhidmkbaaDoor
open Go Go.RowKit Go.ChangeShapes Go.WideShapes Go.Deep
set_option maxRecDepth 100000

theorem acts_of_arg {H : Type} {enc : TypeId × Value → H} {w : World} {r : Reach} {b0 base : Nat} {held : Bool} {v : Value} {d : DataW H} {ps : List MemPlace}
    (hv : Value.okWide Tryd.prog w r b0 33 v) (h : DataW.Trod enc Tryd.prog w base (fun _ => true) held 33 v d ps) : ∃ l, Acts w v l := by
  obtain ⟨a, len, cap, rfl⟩ := okWide_slice Tryd.underlying33 hv
  obtain ⟨fuel, hf⟩ := h
  exact acts_of_reading Tryd.underlying33 Tryd.underlying36 (by kernel_rfl) rfl rfl rfl rfl (by kernel_rfl) (by kernel_rfl) (by kernel_rfl) (by kernel_rfl) rfl rfl rfl rfl
    Tryd.underlying3 Tryd.underlying26 Tryd.underlying9 (by kernel_rfl) hf
end Go.Proofs.YtdnoeahhidmkbaaDoor
