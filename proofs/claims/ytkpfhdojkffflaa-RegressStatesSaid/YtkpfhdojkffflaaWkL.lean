import Derived.Test.YtkpfhdojkffflaaWkK
namespace Go.Wk
open Go
instance (priority := 1200) condsT : Conds (.bool true) true [] := ⟨by simp⟩
instance (priority := 1200) condsF : Conds (.bool false) false [] := ⟨by simp⟩
end Go.Wk
