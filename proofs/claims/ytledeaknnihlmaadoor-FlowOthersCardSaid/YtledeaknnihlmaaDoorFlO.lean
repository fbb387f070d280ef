import Derived.Test.YtledeaknnihlmaaDoorFlG
import Derived.Test.YtledeaknnihlmaaDoorLiftC
namespace Go.Proofs.YtledeaknnihlmaaDoor.L
open Go Go.Lift
theorem mixed : Tryd.prog.follows .mixedOrders = true := by kernel_rfl
theorem ok6 : FnOk Tryd.prog GW 6 ⟨s6, d6⟩ := c_fn_ok mixed tab_nil Tryd.func6 k6
theorem ok27 : FnOk Tryd.prog GW 27 ⟨s27, d27⟩ := c_fn_ok mixed tab_nil Tryd.func27 k27
theorem ok50 : FnOk Tryd.prog GW 50 ⟨s50, d50⟩ := c_fn_ok mixed tab_nil Tryd.func50 k50
theorem ok28 : FnOk Tryd.prog GW 28 ⟨s28, d28⟩ := c_fn_ok mixed (tab_cons ok50 (tab_cons ok51 (tab_cons ok52 tab_nil))) Tryd.func28 k28
theorem ok29 : FnOk Tryd.prog GW 29 ⟨s29, d29⟩ := c_fn_ok mixed tab_nil Tryd.func29 k29
theorem ok8 : FnOk Tryd.prog GW 8 ⟨s8, d8⟩ := c_fn_ok mixed (tab_cons ok27 (tab_cons ok28 (tab_cons ok29 tab_nil))) Tryd.func8 k8
theorem ok9 : FnOk Tryd.prog GW 9 ⟨s9, d9⟩ := c_fn_ok mixed (tab_cons ok8 tab_nil) Tryd.func9 k9
theorem ok23 : FnOk Tryd.prog GW 23 ⟨s23, d23⟩ := c_fn_ok mixed tab_nil Tryd.func23 k23
theorem ok12 : FnOk Tryd.prog GW 12 ⟨s12, d12⟩ := c_fn_ok mixed (tab_cons ok29 (tab_cons ok9 tab_nil)) Tryd.func12 k12
theorem ok42 : FnOk Tryd.prog GW 42 ⟨s42, d42⟩ := c_fn_ok mixed tab_nil Tryd.func42 k42
theorem ok15 : FnOk Tryd.prog GW 15 ⟨s15, d15⟩ := c_fn_ok mixed tab_nil Tryd.func15 k15
theorem ok16 : FnOk Tryd.prog GW 16 ⟨s16, d16⟩ := c_fn_ok mixed (tab_cons ok8 (tab_cons ok9 (tab_cons ok34 (tab_cons ok33 (tab_cons ok35 (tab_cons ok36 tab_nil)))))) Tryd.func16 k16
theorem ok24 : FnOk Tryd.prog GW 24 ⟨s24, d24⟩ := c_fn_ok mixed (tab_cons ok42 (tab_cons ok12 (tab_cons ok15 (tab_cons ok16 tab_nil)))) Tryd.func24 k24
theorem ok4 : FnOk Tryd.prog GW 4 ⟨s4, d4⟩ := c_fn_ok mixed (tab_cons ok6 (tab_cons ok8 (tab_cons ok9 (tab_cons ok23 (tab_cons ok12 (tab_cons ok24 tab_nil)))))) Tryd.func4 k4
end Go.Proofs.YtledeaknnihlmaaDoor.L
