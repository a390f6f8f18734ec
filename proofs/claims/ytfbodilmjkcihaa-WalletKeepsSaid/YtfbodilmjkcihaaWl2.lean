/-
  The wallet's walks and a wallet as an argument, under one name.
-/
import Derived.Test.YtfbodilmjkcihaaWl
import Derived.Test.YtfbodilmjkcihaaOpenW
