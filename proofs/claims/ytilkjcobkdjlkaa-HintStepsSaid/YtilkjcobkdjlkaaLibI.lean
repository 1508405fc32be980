/- Lists of numbers: what chapter 15's texts have. -/
import Derived.Test.YtilkjcobkdjlkaaPkC
