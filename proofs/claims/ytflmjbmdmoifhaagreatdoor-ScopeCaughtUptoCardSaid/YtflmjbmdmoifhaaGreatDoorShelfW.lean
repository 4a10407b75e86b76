/-
  Nothing but an import. Conditions: none.
-/
import Derived.Test.YtflmjbmdmoifhaaGreatDoorShelf
