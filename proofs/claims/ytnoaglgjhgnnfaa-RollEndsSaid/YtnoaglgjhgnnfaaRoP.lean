/- What chapter 26 stands on, in plain words. -/
import Derived.Test.YtnoaglgjhgnnfaaTmP
import Derived.Test.YtnoaglgjhgnnfaaClnP
