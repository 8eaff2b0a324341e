/- Closed runs of the law CoverTexts: twelve items, in parts. No condition. -/
import Derived.Test.YtgpibpkplhlihaaGreatDoorRpC
namespace Go.Proofs.YtgpibpkplhlihaaGreatDoor
open Go Go.Ev
theorem runC12c : (match (fnsF Tryz.prog orcCC 3000).call 7 [.pre (endI (txC (repP cA 12))), .bool false] (hInitT tabs (txC (repP cA 12)) []) with
  | .val (.tuple [x, .int .i64 (.ofNat 0), .int .i64 (.ofNat 0)]) h => allOk (fun q => patOk q 900 x h) ((from1 cP cO cA 12).drop 6)
  | _ => false) = true := by kernel_rfl
end Go.Proofs.YtgpibpkplhlihaaGreatDoor
