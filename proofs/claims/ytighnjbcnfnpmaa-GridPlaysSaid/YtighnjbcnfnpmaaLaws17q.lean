/- userplanelaw17.GridPlays, its walk and the opening of its acts. -/
import Derived.Test.YtighnjbcnfnpmaaLaws17p
import Derived.Test.YtighnjbcnfnpmaaActF
