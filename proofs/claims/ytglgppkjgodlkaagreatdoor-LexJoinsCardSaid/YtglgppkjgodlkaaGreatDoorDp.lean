/- Deep values. -/
import Derived.Test.YtglgppkjgodlkaaGreatDoorD2
