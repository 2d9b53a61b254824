/- RingPlays: the walk and the arguments' opening. -/
import Derived.Test.YtdnbinjinpnnmaaRingOpen
import Derived.Test.YtdnbinjinpnnmaaRingPlaysW
