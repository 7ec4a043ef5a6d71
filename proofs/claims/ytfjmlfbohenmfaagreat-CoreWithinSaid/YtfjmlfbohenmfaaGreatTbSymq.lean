/-
 Where the Lex texts lie beside the data's: datum.Symbol's walk is theirs.
-/
import Derived.Test.YtfjmlfbohenmfaaGreatLexSymq
import Derived.Test.YtfjmlfbohenmfaaGreatPostq
