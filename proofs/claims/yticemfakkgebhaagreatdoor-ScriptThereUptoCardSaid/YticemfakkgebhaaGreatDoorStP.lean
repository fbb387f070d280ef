import Derived.Test.YticemfakkgebhaaGreatDoorStG2
import Derived.Test.YticemfakkgebhaaGreatDoorLiftC
namespace Go.Proofs.YticemfakkgebhaaGreatDoor.L
open Go Go.Lift
theorem mixed : Tryz.prog.follows .mixedOrders = true := by kernel_rfl
theorem ok31 : FnOk Tryz.prog GW 31 ⟨s31, d31⟩ := c_fn_ok mixed tab_nil Tryz.func31 k31
theorem ok14 : FnOk Tryz.prog GW 14 ⟨s14, d14⟩ := c_fn_ok mixed (tab_cons ok31 tab_nil) Tryz.func14 k14
theorem ok5 : FnOk Tryz.prog GW 5 ⟨s5, d5⟩ := c_fn_ok mixed (tab_cons ok14 tab_nil) Tryz.func5 k5
theorem ok9 : FnOk Tryz.prog GW 9 ⟨s9, d9⟩ := c_fn_ok mixed tab_nil Tryz.func9 k9
theorem ok26 : FnOk Tryz.prog GW 26 ⟨s26, d26⟩ := c_fn_ok mixed tab_nil Tryz.func26 k26
theorem ok25 : FnOk Tryz.prog GW 25 ⟨s25, d25⟩ := c_fn_ok mixed (tab_cons ok26 tab_nil) Tryz.func25 k25
theorem ok44 : FnOk Tryz.prog GW 44 ⟨s44, d44⟩ := c_fn_ok mixed (tab_cons ok26 tab_nil) Tryz.func44 k44
theorem ok24 : FnOk Tryz.prog GW 24 ⟨s24, d24⟩ := c_fn_ok mixed (tab_cons ok44 tab_nil) Tryz.func24 k24
theorem ok45 : FnOk Tryz.prog GW 45 ⟨s45, d45⟩ := c_fn_ok mixed (tab_cons ok26 tab_nil) Tryz.func45 k45
theorem ok24x1 : FnOk Tryz.prog GW 24 ⟨s24x1, d24x1⟩ := c_fn_ok mixed (tab_cons ok45 tab_nil) Tryz.func24 k24x1
theorem ok24x2 : FnOk Tryz.prog GW 24 ⟨s24x2, d24x2⟩ := c_fn_ok mixed (tab_cons ok25 tab_nil) Tryz.func24 k24x2
theorem ok27 : FnOk Tryz.prog GW 27 ⟨s27, d27⟩ := c_fn_ok mixed (tab_cons ok44 (tab_cons ok24x2 (tab_cons ok24x1 (tab_cons ok24 tab_nil)))) Tryz.func27 k27
theorem ok28 : FnOk Tryz.prog GW 28 ⟨s28, d28⟩ := c_fn_ok mixed (tab_cons ok45 (tab_cons ok24x2 (tab_cons ok24x1 (tab_cons ok24 (tab_cons ok27 tab_nil))))) Tryz.func28 k28
theorem ok11 : FnOk Tryz.prog GW 11 ⟨s11, d11⟩ := c_fn_ok mixed (tab_cons ok27 (tab_cons ok28 tab_nil)) Tryz.func11 k11
theorem ok10 : FnOk Tryz.prog GW 10 ⟨s10, d10⟩ := c_fn_ok mixed (tab_cons ok25 (tab_cons ok24x2 (tab_cons ok24x1 (tab_cons ok24 (tab_cons ok11 tab_nil))))) Tryz.func10 k10
theorem ok12 : FnOk Tryz.prog GW 12 ⟨s12, d12⟩ := c_fn_ok mixed (tab_cons ok29 tab_nil) Tryz.func12 k12
theorem ok30 : FnOk Tryz.prog GW 30 ⟨s30, d30⟩ := c_fn_ok mixed tab_nil Tryz.func30 k30
theorem ok13 : FnOk Tryz.prog GW 13 ⟨s13, d13⟩ := c_fn_ok mixed (tab_cons ok26 (tab_cons ok30 tab_nil)) Tryz.func13 k13
theorem ok4 : FnOk Tryz.prog GW 4 ⟨s4, d4⟩ := c_fn_ok mixed (tab_cons ok9 (tab_cons ok10 (tab_cons ok11 (tab_cons ok12 (tab_cons ok13 tab_nil))))) Tryz.func4 k4
theorem ok33 : FnOk Tryz.prog GW 33 ⟨s33, d33⟩ := c_fn_ok mixed tab_nil Tryz.func33 k33
theorem ok32 : FnOk Tryz.prog GW 32 ⟨s32, d32⟩ := c_fn_ok mixed tab_nil Tryz.func32 k32
theorem ok15 : FnOk Tryz.prog GW 15 ⟨s15, d15⟩ := c_fn_ok mixed (tab_cons ok33 (tab_cons ok32 (tab_cons ok34 (tab_cons ok35 (tab_cons ok36 tab_nil))))) Tryz.func15 k15
theorem ok38 : FnOk Tryz.prog GW 38 ⟨s38, d38⟩ := c_fn_ok mixed (tab_cons ok52 (tab_cons ok32 (tab_cons ok53 (tab_cons ok15 tab_nil)))) Tryz.func38 k38
theorem ok16 : FnOk Tryz.prog GW 16 ⟨s16, d16⟩ := c_fn_ok mixed (tab_cons ok37 (tab_cons ok38 tab_nil)) Tryz.func16 k16
theorem ok23 : FnOk Tryz.prog GW 23 ⟨s23, d23⟩ := c_fn_ok mixed tab_nil Tryz.func23 k23
theorem ok8 : FnOk Tryz.prog GW 8 ⟨s8, d8⟩ := c_fn_ok mixed (tab_cons ok23 tab_nil) Tryz.func8 k8
theorem ok6 : FnOk Tryz.prog GW 6 ⟨s6, d6⟩ := c_fn_ok mixed (tab_cons ok15 (tab_cons ok16 (tab_cons ok8 tab_nil))) Tryz.func6 k6
theorem ok39 : FnOk Tryz.prog GW 39 ⟨s39, d39⟩ := c_fn_ok mixed tab_nil Tryz.func39 k39
theorem ok17 : FnOk Tryz.prog GW 17 ⟨s17, d17⟩ := c_fn_ok mixed (tab_cons ok13 (tab_cons ok39 (tab_cons ok29 tab_nil))) Tryz.func17 k17
theorem ok18 : FnOk Tryz.prog GW 18 ⟨s18, d18⟩ := c_fn_ok mixed (tab_cons ok29 tab_nil) Tryz.func18 k18
theorem ok54 : FnOk Tryz.prog GW 54 ⟨s54, d54⟩ := c_fn_ok mixed tab_nil Tryz.func54 k54
theorem ok40 : FnOk Tryz.prog GW 40 ⟨s40, d40⟩ := c_fn_ok mixed (tab_cons ok54 tab_nil) Tryz.func40 k40
theorem ok19 : FnOk Tryz.prog GW 19 ⟨s19, d19⟩ := c_fn_ok mixed (tab_cons ok40 tab_nil) Tryz.func19 k19
theorem ok41 : FnOk Tryz.prog GW 41 ⟨s41, d41⟩ := c_fn_ok mixed tab_nil Tryz.func41 k41
theorem ok42 : FnOk Tryz.prog GW 42 ⟨s42, d42⟩ := c_fn_ok mixed (tab_cons ok40 tab_nil) Tryz.func42 k42
theorem ok55 : FnOk Tryz.prog GW 55 ⟨s55, d55⟩ := c_fn_ok mixed tab_nil Tryz.func55 k55
theorem ok43 : FnOk Tryz.prog GW 43 ⟨s43, d43⟩ := c_fn_ok mixed (tab_cons ok19 (tab_cons ok55 (tab_cons ok42 tab_nil))) Tryz.func43 k43
theorem ok21 : FnOk Tryz.prog GW 21 ⟨s21, d21⟩ := c_fn_ok mixed (tab_cons ok42 (tab_cons ok43 tab_nil)) Tryz.func21 k21
theorem ok20 : FnOk Tryz.prog GW 20 ⟨s20, d20⟩ := c_fn_ok mixed (tab_cons ok19 (tab_cons ok41 (tab_cons ok21 tab_nil))) Tryz.func20 k20
theorem ok22 : FnOk Tryz.prog GW 22 ⟨s22, d22⟩ := c_fn_ok mixed tab_nil Tryz.func22 k22
theorem ok7 : FnOk Tryz.prog GW 7 ⟨s7, d7⟩ := c_fn_ok mixed (tab_cons ok17 (tab_cons ok18 (tab_cons ok19 (tab_cons ok20 (tab_cons ok21 (tab_cons ok22 tab_nil)))))) Tryz.func7 k7
theorem ok3 : FnOk Tryz.prog GW 3 ⟨s3, d3⟩ := c_fn_ok mixed (tab_cons ok5 (tab_cons ok4 (tab_cons ok6 (tab_cons ok7 (tab_cons ok8 tab_nil))))) Tryz.func3 k3
end Go.Proofs.YticemfakkgebhaaGreatDoor.L
