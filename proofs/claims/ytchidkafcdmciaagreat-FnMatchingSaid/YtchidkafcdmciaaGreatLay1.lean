/- The shelf's sort of integers at this translation. -/
import Derived.Test.YtchidkafcdmciaaGreatPlain
