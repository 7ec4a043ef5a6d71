/-
 Where the Lex texts lie beside the data's: shuttleref02.Symbol's walk is theirs.
-/
import Derived.Test.YtfjmlfbohenmfaaGreatLexRefCq
import Derived.Test.YtfjmlfbohenmfaaGreatTbSymq
