/-
  Slices of numbers that a call has made (in this seat they lie with the rests).
-/
import Derived.Test.YtcihbcmdmgmonaaPrests
import Derived.Test.YtcihbcmdmgmonaaPsq
