/-
 Where the Lex texts lie beside the data's: Keep is the data's.
-/
import Derived.Test.YtcopdfihaheplaaTbKeep
import Derived.Test.YtcopdfihaheplaaFixPlain
