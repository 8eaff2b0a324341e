/- The listed variables are what the program's own text lays: the list. No condition. -/
import Derived.Test.YtbflihggpacblaaGreatDoorRows
import Derived.LaidByTextLater
import Derived.SevenTiedAt
namespace Go.Proofs.YtbflihggpacblaaGreatDoor
open Go
abbrev lay : List (String × DataW Unit) := [("unicode/utf8.acceptRanges", Rows.laid_unicode_utf8_acceptRanges), ("strings.asciiSpace", Rows.laid_strings_asciiSpace), ("unicode.White_Space", Rows.laid_unicode_White_Space), ("errors.errorType", Rows.laid_errors_errorType)]
end Go.Proofs.YtbflihggpacblaaGreatDoor
