/- Deep values. -/
import Derived.Test.YtjcocblohiglbaaGreatDoorD2
