/-
 Where the Lex texts lie beside the data's: datum.Symbol's walk is theirs.
-/
import Derived.Test.YtcopdfihaheplaaLexSym
import Derived.Test.YtcopdfihaheplaaPost
