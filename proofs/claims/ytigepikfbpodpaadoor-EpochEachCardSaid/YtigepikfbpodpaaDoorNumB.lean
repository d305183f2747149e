/- Numbers' texts, there and back. -/
import Derived.Test.YtigepikfbpodpaaDoorNumU
import Derived.Test.YtigepikfbpodpaaDoorNumP
