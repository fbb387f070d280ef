import Derived.Test.YticemfakkgebhaaDoorScrG
import Derived.Test.YticemfakkgebhaaDoorLiftC
namespace Go.Proofs.YticemfakkgebhaaDoor.L
open Go Go.Lift
theorem mixed : Tryd.prog.follows .mixedOrders = true := by kernel_rfl
theorem ok29 : FnOk Tryd.prog GW 29 ⟨s29, d29⟩ := c_fn_ok mixed tab_nil Tryd.func29 k29
theorem ok28 : FnOk Tryd.prog GW 28 ⟨s28, d28⟩ := c_fn_ok mixed tab_nil Tryd.func28 k28
theorem ok9 : FnOk Tryd.prog GW 9 ⟨s9, d9⟩ := c_fn_ok mixed (tab_cons ok29 (tab_cons ok28 (tab_cons ok30 (tab_cons ok31 (tab_cons ok32 tab_nil))))) Tryd.func9 k9
theorem ok18 : FnOk Tryd.prog GW 18 ⟨s18, d18⟩ := c_fn_ok mixed (tab_cons ok9 tab_nil) Tryd.func18 k18
theorem ok36 : FnOk Tryd.prog GW 36 ⟨s36, d36⟩ := c_fn_ok mixed (tab_cons ok58 (tab_cons ok28 (tab_cons ok59 (tab_cons ok9 tab_nil)))) Tryd.func36 k36
theorem ok13 : FnOk Tryd.prog GW 13 ⟨s13, d13⟩ := c_fn_ok mixed (tab_cons ok35 (tab_cons ok36 tab_nil)) Tryd.func13 k13
theorem ok38 : FnOk Tryd.prog GW 38 ⟨s38, d38⟩ := c_fn_ok mixed tab_nil Tryd.func38 k38
theorem ok15 : FnOk Tryd.prog GW 15 ⟨s15, d15⟩ := c_fn_ok mixed (tab_cons ok38 tab_nil) Tryd.func15 k15
theorem ok19 : FnOk Tryd.prog GW 19 ⟨s19, d19⟩ := c_fn_ok mixed (tab_cons ok9 (tab_cons ok13 (tab_cons ok15 tab_nil))) Tryd.func19 k19
theorem ok4 : FnOk Tryd.prog GW 4 ⟨s4, d4⟩ := c_fn_ok mixed (tab_cons ok9 (tab_cons ok18 (tab_cons ok13 (tab_cons ok19 (tab_cons ok15 tab_nil))))) Tryd.func4 k4
theorem ok20 : FnOk Tryd.prog GW 20 ⟨s20, d20⟩ := c_fn_ok mixed tab_nil Tryd.func20 k20
theorem ok16 : FnOk Tryd.prog GW 16 ⟨s16, d16⟩ := c_fn_ok mixed tab_nil Tryd.func16 k16
theorem ok5 : FnOk Tryd.prog GW 5 ⟨s5, d5⟩ := c_fn_ok mixed (tab_cons ok13 (tab_cons ok19 (tab_cons ok18 (tab_cons ok20 (tab_cons ok16 tab_nil))))) Tryd.func5 k5
theorem ok21 : FnOk Tryd.prog GW 21 ⟨s21, d21⟩ := c_fn_ok mixed tab_nil Tryd.func21 k21
theorem ok39 : FnOk Tryd.prog GW 39 ⟨s39, d39⟩ := c_fn_ok mixed (tab_cons ok62 tab_nil) Tryd.func39 k39
theorem ok22 : FnOk Tryd.prog GW 22 ⟨s22, d22⟩ := c_fn_ok mixed (tab_cons ok39 tab_nil) Tryd.func22 k22
theorem ok23 : FnOk Tryd.prog GW 23 ⟨s23, d23⟩ := c_fn_ok mixed tab_nil Tryd.func23 k23
theorem ok24 : FnOk Tryd.prog GW 24 ⟨s24, d24⟩ := c_fn_ok mixed (tab_cons ok38 tab_nil) Tryd.func24 k24
theorem ok25 : FnOk Tryd.prog GW 25 ⟨s25, d25⟩ := c_fn_ok mixed (tab_cons ok39 tab_nil) Tryd.func25 k25
theorem ok6 : FnOk Tryd.prog GW 6 ⟨s6, d6⟩ := c_fn_ok mixed (tab_cons ok19 (tab_cons ok21 (tab_cons ok22 (tab_cons ok23 (tab_cons ok24 (tab_cons ok15 (tab_cons ok25 tab_nil))))))) Tryd.func6 k6
end Go.Proofs.YticemfakkgebhaaDoor.L
