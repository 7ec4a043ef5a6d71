/-
 All that ReadPrints leans on.
-/
import Derived.Test.YtcopdfihaheplaaLexWords
import Derived.Test.YtcopdfihaheplaaTxL
import Derived.Test.YtcopdfihaheplaaTxK
import Derived.Test.YtcopdfihaheplaaTxN
import Derived.Test.YtcopdfihaheplaaReadB3ZM1
import Derived.Test.YtcopdfihaheplaaReadB3ZM3
import Derived.Test.YtcopdfihaheplaaReadB3ZM4
import Derived.Test.YtcopdfihaheplaaPost
