/-
 Where the Lex texts lie beside the data's: shuttleref02.Symbol's walk is theirs.
-/
import Derived.Test.YtcopdfihaheplaaLexRefC
import Derived.Test.YtcopdfihaheplaaTbSym
