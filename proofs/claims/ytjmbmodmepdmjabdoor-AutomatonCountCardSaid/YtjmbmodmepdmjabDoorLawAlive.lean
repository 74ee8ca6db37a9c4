/- The examples of the chapter hold, at any fuel that is enough: the functions, evaluated. -/
import Derived.Test.YtjmbmodmepdmjabDoorD1
namespace Go.GL
open Go.GK
set_option maxRecDepth 100000
theorem alive_at (n : Nat) : w05_alive (n + 2000) = some true := by kernel_rfl
end Go.GL
