/- PipePlays: the walk and the arguments' opening. -/
import Derived.Test.YtcmcilfopkhipaaPipeOpen
import Derived.Test.YtcmcilfopkhipaaPipePlaysW
