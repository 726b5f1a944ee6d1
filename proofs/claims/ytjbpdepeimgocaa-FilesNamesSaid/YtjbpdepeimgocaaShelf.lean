/-
  This seat wants nothing of the library's shelf beyond its own imports: an empty text in the place of the other seats' Shelf.
-/
import Derived.Test.YtjbpdepeimgocaaProg
