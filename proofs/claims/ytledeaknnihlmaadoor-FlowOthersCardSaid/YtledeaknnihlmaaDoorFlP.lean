import Derived.Test.YtledeaknnihlmaaDoorFlO
import Derived.Test.YtledeaknnihlmaaDoorFlE
namespace Go.Proofs.YtledeaknnihlmaaDoor.L
open Go Go.Lift
theorem ok44 : FnOk Tryd.prog GW 44 ⟨s44, d44⟩ := c_fn_ok mixed tab_nil Tryd.func44 k44
theorem ok47 : FnOk Tryd.prog GW 47 ⟨s47, d47⟩ := c_fn_ok mixed tab_nil Tryd.func47 k47
theorem ok46 : FnOk Tryd.prog GW 46 ⟨s46, d46⟩ := c_fn_ok mixed (tab_cons ok47 tab_nil) Tryd.func46 k46
theorem ok43 : FnOk Tryd.prog GW 43 ⟨s43, d43⟩ := c_fn_ok mixed (tab_cons ok44 tab_nil) Tryd.func43 k43
theorem ok45 : FnOk Tryd.prog GW 45 ⟨s45, d45⟩ := c_fn_ok mixed (tab_cons ok46 tab_nil) Tryd.func45 k45
theorem ok48 : FnOk Tryd.prog GW 48 ⟨s48, d48⟩ := c_fn_ok mixed tab_nil Tryd.func48 k48
theorem ok61 : FnOk Tryd.prog GW 61 ⟨s61, d61⟩ := c_fn_ok mixed tab_nil Tryd.func61 k61
theorem ok62 : FnOk Tryd.prog GW 62 ⟨s62, d62⟩ := c_fn_ok mixed tab_nil Tryd.func62 k62
theorem ok63 : FnOk Tryd.prog GW 63 ⟨s63, d63⟩ := c_fn_ok mixed tab_nil Tryd.func63 k63
theorem ok64 : FnOk Tryd.prog GW 64 ⟨s64, d64⟩ := c_fn_ok mixed tab_nil Tryd.func64 k64
theorem ok65 : FnOk Tryd.prog GW 65 ⟨s65, d65⟩ := c_fn_ok mixed tab_nil Tryd.func65 k65
theorem ok66 : FnOk Tryd.prog GW 66 ⟨s66, d66⟩ := c_fn_ok mixed tab_nil Tryd.func66 k66
theorem ok49 : FnOk Tryd.prog GW 49 ⟨s49, d49⟩ := c_fn_ok mixed (tab_cons ok61 (tab_cons ok62 (tab_cons ok63 (tab_cons ok64 (tab_cons ok65 (tab_cons ok66 tab_nil)))))) Tryd.func49 k49
theorem ok25 : FnOk Tryd.prog GW 25 ⟨s25, d25⟩ := c_fn_ok mixed (tab_cons ok12 (tab_cons ok43 (tab_cons ok44 (tab_cons ok45 (tab_cons ok46 (tab_cons ok48 (tab_cons ok49 tab_nil))))))) Tryd.func25 k25
theorem ok5 : FnOk Tryd.prog GW 5 ⟨s5, d5⟩ := c_fn_ok mixed (tab_cons ok6 (tab_cons ok24 (tab_cons ok12 (tab_cons ok25 tab_nil)))) Tryd.func5 k5
end Go.Proofs.YtledeaknnihlmaaDoor.L
