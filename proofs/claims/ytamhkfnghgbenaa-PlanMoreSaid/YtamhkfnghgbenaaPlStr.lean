/-
  plan: bytes as strings.
-/
import Derived.Test.YtamhkfnghgbenaaBytes
import Derived.Test.YtamhkfnghgbenaaStCell
