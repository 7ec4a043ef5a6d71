/-
 All that ReadBack leans on.
-/
import Derived.Test.YtcopdfihaheplaaLexWords
import Derived.Test.YtcopdfihaheplaaTxL
import Derived.Test.YtcopdfihaheplaaTxK
import Derived.Test.YtcopdfihaheplaaReadB4ZM1
import Derived.Test.YtcopdfihaheplaaReadB4ZM2
import Derived.Test.YtcopdfihaheplaaReadB4ZM4
import Derived.Test.YtcopdfihaheplaaReadB4ZM5
import Derived.Test.YtcopdfihaheplaaPost
