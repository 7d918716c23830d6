/- WalActs walked: whatever comes in, it returns true. -/
import Derived.Test.YtdnoeahhidmkbaaDoorWaApp
import Derived.Test.YtdnoeahhidmkbaaDoorWaRes
import Derived.Test.YtdnoeahhidmkbaaDoorWaKin
namespace Go.Proofs.YtdnoeahhidmkbaaDoor
open Go Go.RowKit
set_option maxRecDepth 100000

theorem acts_few (cp : Nat) (v : Value) (la : List wl.Act) (w : World) (hcp : cp < 65536) (hv : Acts w v la) (h : la.length ≤ 60) (ht : TabAt w) :
    Calls Tryd.prog 7 #[.int .u16 (cp : Int), v] w fun e w' => e = .returned (.bool true) ∧ Below w.heap.size w w' :=
  skel.2.2.2.2.2.2 part_append part_reset part_fuse part_crash part_open part_rest cp v la w hcp hv h ht
/-- whatever comes in, it returns true -/
theorem acts_law (cp : Nat) (v : Value) (la : List wl.Act) (w : World) (hcp : cp < 65536) (hv : Acts w v la) (ht : TabAt w) :
    Calls Tryd.prog 7 #[.int .u16 (cp : Int), v] w fun e w' => e = .returned (.bool true) ∧ Below w.heap.size w w' := by
  by_cases h : la.length ≤ 60
  · exact acts_few cp v la w hcp hv h ht
  · exact acts_long cp v la w hv (by omega) ht
end Go.Proofs.YtdnoeahhidmkbaaDoor
