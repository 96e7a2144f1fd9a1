/- Stands for the second part of the shelf at this dump: all of it lies in the first. -/
import Derived.Test.YtcecpodbmjghhaaGreatShelf
