/- merged. -/
import Derived.Test.YtfagejfcibgigaaQLkG
/- SORT: LkG serves. -/
