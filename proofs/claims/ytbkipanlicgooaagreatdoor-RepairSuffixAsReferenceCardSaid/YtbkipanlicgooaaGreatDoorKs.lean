/-
  A part of the run of the laws' head, looked at by the kernel. No conditions.
-/
import Derived.Test.YtbkipanlicgooaaGreatDoorK0
import Derived.Test.YtbkipanlicgooaaGreatDoorK1
import Derived.Test.YtbkipanlicgooaaGreatDoorK2
import Derived.Test.YtbkipanlicgooaaGreatDoorK3
import Derived.Test.YtbkipanlicgooaaGreatDoorK4
import Derived.Test.YtbkipanlicgooaaGreatDoorK5
import Derived.Test.YtbkipanlicgooaaGreatDoorK6
import Derived.Test.YtbkipanlicgooaaGreatDoorK7
import Derived.Test.YtbkipanlicgooaaGreatDoorK8
namespace Go.Proofs.YtbkipanlicgooaaGreatDoor
theorem kcs : ∀ c, c < 36 → okCalls (gl (lvM c kM)) H0 (colM c kM) = true := ltAll (ltAll (ltAll (ltAll (ltAll (ltAll (ltAll (ltAll (ltAll (ltAll (ltAll (ltAll (ltAll (ltAll (ltAll (ltAll (ltAll (ltAll (ltAll (ltAll (ltAll (ltAll (ltAll (ltAll (ltAll (ltAll (ltAll (ltAll (ltAll (ltAll (ltAll (ltAll (ltAll (ltAll (ltAll (ltAll (ltNone) kc0) kc1) kc2) kc3) kc4) kc5) kc6) kc7) kc8) kc9) kc10) kc11) kc12) kc13) kc14) kc15) kc16) kc17) kc18) kc19) kc20) kc21) kc22) kc23) kc24) kc25) kc26) kc27) kc28) kc29) kc30) kc31) kc32) kc33) kc34) kc35
end Go.Proofs.YtbkipanlicgooaaGreatDoor
