import Derived.Test.YticemfakkgebhaaDoorScrO
import Derived.Test.YticemfakkgebhaaDoorScG2
import Derived.Test.YticemfakkgebhaaDoorLiftC
namespace Go.Proofs.YticemfakkgebhaaDoor.L
open Go Go.Lift
theorem ok71 : FnOk Tryd.prog GW 71 ⟨s71, d71⟩ := c_fn_ok mixed tab_nil Tryd.func71 k71
theorem ok74 : FnOk Tryd.prog GW 74 ⟨s74, d74⟩ := c_fn_ok mixed tab_nil Tryd.func74 k74
theorem ok50 : FnOk Tryd.prog GW 50 ⟨s50, d50⟩ := c_fn_ok mixed (tab_cons ok71 (tab_cons ok74 tab_nil)) Tryd.func50 k50
theorem ok63 : FnOk Tryd.prog GW 63 ⟨s63, d63⟩ := c_fn_ok mixed tab_nil Tryd.func63 k63
theorem ok40 : FnOk Tryd.prog GW 40 ⟨s40, d40⟩ := c_fn_ok mixed (tab_cons ok50 (tab_cons ok63 (tab_cons ok64 tab_nil))) Tryd.func40 k40
theorem ok41 : FnOk Tryd.prog GW 41 ⟨s41, d41⟩ := c_fn_ok mixed (tab_cons ok64 tab_nil) Tryd.func41 k41
theorem ok87 : FnOk Tryd.prog GW 87 ⟨s87, d87⟩ := c_fn_ok mixed tab_nil Tryd.func87 k87
theorem ok65 : FnOk Tryd.prog GW 65 ⟨s65, d65⟩ := c_fn_ok mixed (tab_cons ok87 tab_nil) Tryd.func65 k65
theorem ok42 : FnOk Tryd.prog GW 42 ⟨s42, d42⟩ := c_fn_ok mixed (tab_cons ok65 tab_nil) Tryd.func42 k42
theorem ok66 : FnOk Tryd.prog GW 66 ⟨s66, d66⟩ := c_fn_ok mixed tab_nil Tryd.func66 k66
theorem ok67 : FnOk Tryd.prog GW 67 ⟨s67, d67⟩ := c_fn_ok mixed (tab_cons ok65 tab_nil) Tryd.func67 k67
theorem ok88 : FnOk Tryd.prog GW 88 ⟨s88, d88⟩ := c_fn_ok mixed tab_nil Tryd.func88 k88
theorem ok68 : FnOk Tryd.prog GW 68 ⟨s68, d68⟩ := c_fn_ok mixed (tab_cons ok42 (tab_cons ok88 (tab_cons ok67 tab_nil))) Tryd.func68 k68
theorem ok44 : FnOk Tryd.prog GW 44 ⟨s44, d44⟩ := c_fn_ok mixed (tab_cons ok67 (tab_cons ok68 tab_nil)) Tryd.func44 k44
theorem ok43 : FnOk Tryd.prog GW 43 ⟨s43, d43⟩ := c_fn_ok mixed (tab_cons ok42 (tab_cons ok66 (tab_cons ok44 tab_nil))) Tryd.func43 k43
theorem ok45 : FnOk Tryd.prog GW 45 ⟨s45, d45⟩ := c_fn_ok mixed tab_nil Tryd.func45 k45
theorem ok26 : FnOk Tryd.prog GW 26 ⟨s26, d26⟩ := c_fn_ok mixed (tab_cons ok40 (tab_cons ok41 (tab_cons ok42 (tab_cons ok43 (tab_cons ok44 (tab_cons ok45 tab_nil)))))) Tryd.func26 k26
theorem ok46 : FnOk Tryd.prog GW 46 ⟨s46, d46⟩ := c_fn_ok mixed tab_nil Tryd.func46 k46
theorem ok70 : FnOk Tryd.prog GW 70 ⟨s70, d70⟩ := c_fn_ok mixed (tab_cons ok71 tab_nil) Tryd.func70 k70
theorem ok89 : FnOk Tryd.prog GW 89 ⟨s89, d89⟩ := c_fn_ok mixed (tab_cons ok71 tab_nil) Tryd.func89 k89
theorem ok69 : FnOk Tryd.prog GW 69 ⟨s69, d69⟩ := c_fn_ok mixed (tab_cons ok89 tab_nil) Tryd.func69 k69
theorem ok90 : FnOk Tryd.prog GW 90 ⟨s90, d90⟩ := c_fn_ok mixed (tab_cons ok71 tab_nil) Tryd.func90 k90
theorem ok69x1 : FnOk Tryd.prog GW 69 ⟨s69x1, d69x1⟩ := c_fn_ok mixed (tab_cons ok90 tab_nil) Tryd.func69 k69x1
theorem ok69x2 : FnOk Tryd.prog GW 69 ⟨s69x2, d69x2⟩ := c_fn_ok mixed (tab_cons ok70 tab_nil) Tryd.func69 k69x2
theorem ok72 : FnOk Tryd.prog GW 72 ⟨s72, d72⟩ := c_fn_ok mixed (tab_cons ok89 (tab_cons ok69x2 (tab_cons ok69x1 (tab_cons ok69 tab_nil)))) Tryd.func72 k72
theorem ok73 : FnOk Tryd.prog GW 73 ⟨s73, d73⟩ := c_fn_ok mixed (tab_cons ok90 (tab_cons ok69x2 (tab_cons ok69x1 (tab_cons ok69 (tab_cons ok72 tab_nil))))) Tryd.func73 k73
theorem ok48 : FnOk Tryd.prog GW 48 ⟨s48, d48⟩ := c_fn_ok mixed (tab_cons ok72 (tab_cons ok73 tab_nil)) Tryd.func48 k48
theorem ok47 : FnOk Tryd.prog GW 47 ⟨s47, d47⟩ := c_fn_ok mixed (tab_cons ok70 (tab_cons ok69x2 (tab_cons ok69x1 (tab_cons ok69 (tab_cons ok48 tab_nil))))) Tryd.func47 k47
theorem ok49 : FnOk Tryd.prog GW 49 ⟨s49, d49⟩ := c_fn_ok mixed (tab_cons ok64 tab_nil) Tryd.func49 k49
theorem ok27 : FnOk Tryd.prog GW 27 ⟨s27, d27⟩ := c_fn_ok mixed (tab_cons ok46 (tab_cons ok47 (tab_cons ok48 (tab_cons ok49 (tab_cons ok50 tab_nil))))) Tryd.func27 k27
theorem ok7 : FnOk Tryd.prog GW 7 ⟨s7, d7⟩ := c_fn_ok mixed (tab_cons ok26 (tab_cons ok19 (tab_cons ok27 (tab_cons ok16 tab_nil)))) Tryd.func7 k7
end Go.Proofs.YticemfakkgebhaaDoor.L
