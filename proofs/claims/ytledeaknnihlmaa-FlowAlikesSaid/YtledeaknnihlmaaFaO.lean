import Derived.Test.YtledeaknnihlmaaFaG
namespace Go.Proofs.Ytledeaknnihlmaa.L
open Go Go.Lift
theorem mixed : Try.prog.follows .mixedOrders = true := by kernel_rfl
theorem ok4 : FnOk Try.prog GW 4 ⟨s4, d4⟩ := c_fn_ok (tab := ⟨_, ksW⟩) mixed tab_nil Try.func4 k4
theorem ok16 : FnOk Try.prog GW 16 ⟨s16, d16⟩ := c_fn_ok (tab := ⟨_, ksW⟩) mixed tab_nil Try.func16 k16
theorem ok5 : FnOk Try.prog GW 5 ⟨s5, d5⟩ := c_fn_ok (tab := ⟨_, ksW⟩) mixed (tab_cons ok16 tab_nil) Try.func5 k5
theorem ok36 : FnOk Try.prog GW 36 ⟨s36, d36⟩ := c_fn_ok (tab := ⟨_, ks0⟩) mixed tab_nil Try.func36 k36
theorem ok62 : FnOk Try.prog GW 62 ⟨s62, d62⟩ := c_fn_ok (tab := ⟨_, ks0⟩) mixed tab_nil Try.func62 k62
theorem ok54 : FnOk Try.prog GW 54 ⟨s54, d54⟩ := c_fn_ok (tab := ⟨_, ks0⟩) mixed tab_nil Try.func54 k54
theorem ok43 : FnOk Try.prog GW 43 ⟨s43, d43⟩ := c_fn_ok (tab := ⟨_, ks0⟩) mixed (tab_cons ok54 (tab_cons ok55 (tab_cons ok56 tab_nil))) Try.func43 k43
theorem ok53 : FnOk Try.prog GW 53 ⟨s53, d53⟩ := c_fn_ok (tab := ⟨_, ks0⟩) mixed (tab_cons ok62 (tab_cons ok43 (tab_cons ok36 tab_nil))) Try.func53 k53
theorem ok37 : FnOk Try.prog GW 37 ⟨s37, d37⟩ := c_fn_ok (tab := ⟨_, ks0⟩) mixed (tab_cons ok53 tab_nil) Try.func37 k37
theorem ok17 : FnOk Try.prog GW 17 ⟨s17, d17⟩ := c_fn_ok (tab := ⟨_, ks0⟩) mixed (tab_cons ok36 (tab_cons ok37 tab_nil)) Try.func17 k17
theorem ok19 : FnOk Try.prog GW 19 ⟨s19, d19⟩ := c_fn_ok (tab := ⟨_, ks0⟩) mixed tab_nil Try.func19 k19
theorem ok18 : FnOk Try.prog GW 18 ⟨s18, d18⟩ := c_fn_ok (tab := ⟨_, ks0⟩) mixed (tab_cons ok19 tab_nil) Try.func18 k18
theorem ok22 : FnOk Try.prog GW 22 ⟨s22, d22⟩ := c_fn_ok (tab := ⟨_, ks0⟩) mixed tab_nil Try.func22 k22
theorem ok21 : FnOk Try.prog GW 21 ⟨s21, d21⟩ := c_fn_ok (tab := ⟨_, ks0⟩) mixed (tab_cons ok22 tab_nil) Try.func21 k21
theorem ok20 : FnOk Try.prog GW 20 ⟨s20, d20⟩ := c_fn_ok (tab := ⟨_, ks0⟩) mixed (tab_cons ok21 tab_nil) Try.func20 k20
theorem ok23 : FnOk Try.prog GW 23 ⟨s23, d23⟩ := c_fn_ok (tab := ⟨_, ks0⟩) mixed tab_nil Try.func23 k23
theorem ok26 : FnOk Try.prog GW 26 ⟨s26, d26⟩ := c_fn_ok (tab := ⟨_, ks0⟩) mixed tab_nil Try.func26 k26
theorem ok38 : FnOk Try.prog GW 38 ⟨s38, d38⟩ := c_fn_ok (tab := ⟨_, ks0⟩) mixed tab_nil Try.func38 k38
theorem ok39 : FnOk Try.prog GW 39 ⟨s39, d39⟩ := c_fn_ok (tab := ⟨_, ks0⟩) mixed tab_nil Try.func39 k39
theorem ok40 : FnOk Try.prog GW 40 ⟨s40, d40⟩ := c_fn_ok (tab := ⟨_, ks0⟩) mixed tab_nil Try.func40 k40
theorem ok41 : FnOk Try.prog GW 41 ⟨s41, d41⟩ := c_fn_ok (tab := ⟨_, ks0⟩) mixed tab_nil Try.func41 k41
theorem ok42 : FnOk Try.prog GW 42 ⟨s42, d42⟩ := c_fn_ok (tab := ⟨_, ks0⟩) mixed tab_nil Try.func42 k42
theorem ok24 : FnOk Try.prog GW 24 ⟨s24, d24⟩ := c_fn_ok (tab := ⟨_, ks0⟩) mixed (tab_cons ok26 (tab_cons ok38 (tab_cons ok39 (tab_cons ok40 (tab_cons ok41 (tab_cons ok42 tab_nil)))))) Try.func24 k24
theorem ok6 : FnOk Try.prog GW 6 ⟨s6, d6⟩ := c_fn_ok (tab := ⟨_, ks0⟩) mixed (tab_cons ok19 (tab_cons ok21 (tab_cons ok17 (tab_cons ok18 (tab_cons ok20 (tab_cons ok23 (tab_cons ok24 tab_nil))))))) Try.func6 k6
theorem ok7 : FnOk Try.prog GW 7 ⟨s7, d7⟩ := c_fn_ok (tab := ⟨_, ksW⟩) mixed tab_nil Try.func7 k7
theorem ok25 : FnOk Try.prog GW 25 ⟨s25, d25⟩ := c_fn_ok (tab := ⟨_, ks0⟩) mixed (tab_cons ok26 tab_nil) Try.func25 k25
theorem ok58 : FnOk Try.prog GW 58 ⟨s58, d58⟩ := c_fn_ok (tab := ⟨_, ks0⟩) mixed tab_nil Try.func58 k58
theorem ok46 : FnOk Try.prog GW 46 ⟨s46, d46⟩ := c_fn_ok (tab := ⟨_, ks0⟩) mixed (tab_cons ok58 tab_nil) Try.func46 k46
theorem ok45 : FnOk Try.prog GW 45 ⟨s45, d45⟩ := c_fn_ok (tab := ⟨_, ks0⟩) mixed (tab_cons ok46 tab_nil) Try.func45 k45
theorem ok57 : FnOk Try.prog GW 57 ⟨s57, d57⟩ := c_fn_ok (tab := ⟨_, ks0⟩) mixed (tab_cons ok45 tab_nil) Try.func57 k57
theorem ok44 : FnOk Try.prog GW 44 ⟨s44, d44⟩ := c_fn_ok (tab := ⟨_, ks0⟩) mixed (tab_cons ok57 (tab_cons ok45 tab_nil)) Try.func44 k44
theorem ok28 : FnOk Try.prog GW 28 ⟨s28, d28⟩ := c_fn_ok (tab := ⟨_, ks0⟩) mixed (tab_cons ok45 (tab_cons ok43 (tab_cons ok44 tab_nil))) Try.func28 k28
theorem ok27 : FnOk Try.prog GW 27 ⟨s27, d27⟩ := c_fn_ok (tab := ⟨_, ks0⟩) mixed (tab_cons ok25 tab_nil) Try.func27 k27
theorem ok8 : FnOk Try.prog GW 8 ⟨s8, d8⟩ := c_fn_ok (tab := ⟨_, ks0⟩) mixed (tab_cons ok25 (tab_cons ok17 (tab_cons ok28 (tab_cons ok27 tab_nil)))) Try.func8 k8
theorem ok9 : FnOk Try.prog GW 9 ⟨s9, d9⟩ := c_fn_ok (tab := ⟨_, ksW⟩) mixed tab_nil Try.func9 k9
theorem ok47 : FnOk Try.prog GW 47 ⟨s47, d47⟩ := c_fn_ok (tab := ⟨_, ks0⟩) mixed tab_nil Try.func47 k47
theorem ok29 : FnOk Try.prog GW 29 ⟨s29, d29⟩ := c_fn_ok (tab := ⟨_, ks0⟩) mixed (tab_cons ok47 tab_nil) Try.func29 k29
theorem ok48 : FnOk Try.prog GW 48 ⟨s48, d48⟩ := c_fn_ok (tab := ⟨_, ks0⟩) mixed tab_nil Try.func48 k48
theorem ok66 : FnOk Try.prog GW 66 ⟨s66, d66⟩ := c_fn_ok (tab := ⟨_, ks0⟩) mixed (tab_cons ok48 tab_nil) Try.func66 k66
theorem ok61 : FnOk Try.prog GW 61 ⟨s61, d61⟩ := c_fn_ok (tab := ⟨_, ks0⟩) mixed (tab_cons ok66 tab_nil) Try.func61 k61
theorem ok65 : FnOk Try.prog GW 65 ⟨s65, d65⟩ := c_fn_ok (tab := ⟨_, ks0⟩) mixed (tab_cons ok66 (tab_cons ok61 tab_nil)) Try.func65 k65
theorem ok59 : FnOk Try.prog GW 59 ⟨s59, d59⟩ := c_fn_ok (tab := ⟨_, ks0⟩) mixed (tab_cons ok65 tab_nil) Try.func59 k59
theorem ok60 : FnOk Try.prog GW 60 ⟨s60, d60⟩ := c_fn_ok (tab := ⟨_, ks0⟩) mixed tab_nil Try.func60 k60
theorem ok49 : FnOk Try.prog GW 49 ⟨s49, d49⟩ := c_fn_ok (tab := ⟨_, ks0⟩) mixed (tab_cons ok59 (tab_cons ok60 tab_nil)) Try.func49 k49
theorem ok30 : FnOk Try.prog GW 30 ⟨s30, d30⟩ := c_fn_ok (tab := ⟨_, ks0⟩) mixed (tab_cons ok48 (tab_cons ok49 tab_nil)) Try.func30 k30
theorem ok33 : FnOk Try.prog GW 33 ⟨s33, d33⟩ := c_fn_ok (tab := ⟨_, ks0⟩) mixed tab_nil Try.func33 k33
theorem ok50 : FnOk Try.prog GW 50 ⟨s50, d50⟩ := c_fn_ok (tab := ⟨_, ks0⟩) mixed tab_nil Try.func50 k50
theorem ok51 : FnOk Try.prog GW 51 ⟨s51, d51⟩ := c_fn_ok (tab := ⟨_, ks0⟩) mixed tab_nil Try.func51 k51
theorem ok31 : FnOk Try.prog GW 31 ⟨s31, d31⟩ := c_fn_ok (tab := ⟨_, ks0⟩) mixed (tab_cons ok33 (tab_cons ok50 (tab_cons ok51 tab_nil))) Try.func31 k31
theorem ok10 : FnOk Try.prog GW 10 ⟨s10, d10⟩ := c_fn_ok (tab := ⟨_, ks0⟩) mixed (tab_cons ok29 (tab_cons ok30 (tab_cons ok31 tab_nil))) Try.func10 k10
theorem ok52 : FnOk Try.prog GW 52 ⟨s52, d52⟩ := c_fn_ok (tab := ⟨_, ks0⟩) mixed (tab_cons ok48 (tab_cons ok61 tab_nil)) Try.func52 k52
theorem ok32 : FnOk Try.prog GW 32 ⟨s32, d32⟩ := c_fn_ok (tab := ⟨_, ks0⟩) mixed (tab_cons ok52 tab_nil) Try.func32 k32
theorem ok11 : FnOk Try.prog GW 11 ⟨s11, d11⟩ := c_fn_ok (tab := ⟨_, ks0⟩) mixed (tab_cons ok30 (tab_cons ok32 (tab_cons ok33 tab_nil))) Try.func11 k11
theorem ok12 : FnOk Try.prog GW 12 ⟨s12, d12⟩ := c_fn_ok (tab := ⟨_, ks0⟩) mixed (tab_cons ok29 (tab_cons ok31 tab_nil)) Try.func12 k12
theorem ok34 : FnOk Try.prog GW 34 ⟨s34, d34⟩ := c_fn_ok (tab := ⟨_, ksW⟩) mixed tab_nil Try.func34 k34
theorem ok13 : FnOk Try.prog GW 13 ⟨s13, d13⟩ := c_fn_ok (tab := ⟨_, ksW⟩) mixed (tab_cons ok34 tab_nil) Try.func13 k13
theorem ok14 : FnOk Try.prog GW 14 ⟨s14, d14⟩ := c_fn_ok (tab := ⟨_, ksW⟩) mixed (tab_cons ok8 (tab_cons ok11 tab_nil)) Try.func14 k14
theorem ok35 : FnOk Try.prog GW 35 ⟨s35, d35⟩ := c_fn_ok (tab := ⟨_, ksW⟩) mixed tab_nil Try.func35 k35
theorem ok15 : FnOk Try.prog GW 15 ⟨s15, d15⟩ := c_fn_ok (tab := ⟨_, ksW⟩) mixed (tab_cons ok5 (tab_cons ok35 (tab_cons ok6 (tab_cons ok10 tab_nil)))) Try.func15 k15
theorem ok3 : FnOk Try.prog GW 3 ⟨s3, d3⟩ := c_fn_ok (tab := ⟨_, ksW⟩) mixed (tab_cons ok4 (tab_cons ok5 (tab_cons ok6 (tab_cons ok7 (tab_cons ok8 (tab_cons ok9 (tab_cons ok10 (tab_cons ok11 (tab_cons ok12 (tab_cons ok13 (tab_cons ok14 (tab_cons ok15 tab_nil)))))))))))) Try.func3 k3
end Go.Proofs.Ytledeaknnihlmaa.L
