/-
  The walks of the laws of a bucket, and a wish as an argument, in one import.
-/
import Derived.Test.YthhpdpcingapgaaBl1
import Derived.Test.YthhpdpcingapgaaOpenH
