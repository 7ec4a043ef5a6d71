/-
 All that ReadCut and ReadRows lean on.
-/
import Derived.Test.YtcopdfihaheplaaTxL
import Derived.Test.YtcopdfihaheplaaTxK
import Derived.Test.YtcopdfihaheplaaLexRefI
import Derived.Test.YtcopdfihaheplaaLexBlanksP
import Derived.Test.YtcopdfihaheplaaReadB2ZM1
import Derived.Test.YtcopdfihaheplaaReadB2ZM2
import Derived.Test.YtcopdfihaheplaaReadB2ZM3
import Derived.Test.YtcopdfihaheplaaReadB2ZM4
import Derived.Test.YtcopdfihaheplaaPost
