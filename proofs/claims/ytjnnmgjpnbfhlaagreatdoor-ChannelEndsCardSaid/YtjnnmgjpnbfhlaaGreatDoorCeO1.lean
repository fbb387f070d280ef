import Derived.Test.YtjnnmgjpnbfhlaaGreatDoorCeG2
import Derived.Test.YtjnnmgjpnbfhlaaGreatDoorLiftC
namespace Go.Proofs.YtjnnmgjpnbfhlaaGreatDoor.L
open Go Go.Lift
theorem mixed : Tryz.prog.follows .mixedOrders = true := by kernel_rfl
theorem ok20 : FnOk Tryz.prog GW 20 ⟨s20, d20⟩ := c_fn_ok (tab := ⟨_, ks0⟩) mixed tab_nil Tryz.func20 k20
theorem ok9 : FnOk Tryz.prog GW 9 ⟨s9, d9⟩ := c_fn_ok (tab := ⟨_, ks0⟩) mixed (tab_cons ok20 (tab_cons ok25 (tab_cons ok26 tab_nil))) Tryz.func9 k9
theorem ok33 : FnOk Tryz.prog GW 33 ⟨s33, d33⟩ := c_fn_ok (tab := ⟨_, ks0⟩) mixed tab_nil Tryz.func33 k33
theorem ok34 : FnOk Tryz.prog GW 34 ⟨s34, d34⟩ := c_fn_ok (tab := ⟨_, ks0⟩) mixed tab_nil Tryz.func34 k34
theorem ok15 : FnOk Tryz.prog GW 15 ⟨s15, d15⟩ := c_fn_ok (tab := ⟨_, ks0⟩) mixed (tab_cons ok33 (tab_cons ok34 tab_nil)) Tryz.func15 k15
theorem ok14 : FnOk Tryz.prog GW 14 ⟨s14, d14⟩ := c_fn_ok (tab := ⟨_, ks0⟩) mixed (tab_cons ok15 tab_nil) Tryz.func14 k14
theorem ok16 : FnOk Tryz.prog GW 16 ⟨s16, d16⟩ := c_fn_ok (tab := ⟨_, ks0⟩) mixed tab_nil Tryz.func16 k16
theorem ok7 : FnOk Tryz.prog GW 7 ⟨s7, d7⟩ := c_fn_ok (tab := ⟨_, ks0⟩) mixed tab_nil Tryz.func7 k7
theorem ok24 : FnOk Tryz.prog GW 24 ⟨s24, d24⟩ := c_fn_ok (tab := ⟨_, ks0⟩) mixed tab_nil Tryz.func24 k24
theorem ok10 : FnOk Tryz.prog GW 10 ⟨s10, d10⟩ := c_fn_ok (tab := ⟨_, ks0⟩) mixed tab_nil Tryz.func10 k10
theorem ok63 : FnOk Tryz.prog GW 63 ⟨s63, d63⟩ := c_fn_ok (tab := ⟨_, ks0⟩) mixed tab_nil Tryz.func63 k63
theorem ok62 : FnOk Tryz.prog GW 62 ⟨s62, d62⟩ := c_fn_ok (tab := ⟨_, ks0⟩) mixed (tab_cons ok63 tab_nil) Tryz.func62 k62
theorem ok64 : FnOk Tryz.prog GW 64 ⟨s64, d64⟩ := c_fn_ok (tab := ⟨_, ks0⟩) mixed (tab_cons ok63 tab_nil) Tryz.func64 k64
theorem ok65 : FnOk Tryz.prog GW 65 ⟨s65, d65⟩ := c_fn_ok (tab := ⟨_, ks0⟩) mixed tab_nil Tryz.func65 k65
theorem ok41 : FnOk Tryz.prog GW 41 ⟨s41, d41⟩ := c_fn_ok (tab := ⟨_, ks0⟩) mixed (tab_cons ok62 (tab_cons ok64 (tab_cons ok65 tab_nil))) Tryz.func41 k41
theorem ok68 : FnOk Tryz.prog GW 68 ⟨s68, d68⟩ := c_fn_ok (tab := ⟨_, ks0⟩) mixed (tab_cons ok63 tab_nil) Tryz.func68 k68
theorem ok69 : FnOk Tryz.prog GW 69 ⟨s69, d69⟩ := c_fn_ok (tab := ⟨_, ks0⟩) mixed tab_nil Tryz.func69 k69
theorem ok73 : FnOk Tryz.prog GW 73 ⟨s73, d73⟩ := c_fn_ok (tab := ⟨_, ks0⟩) mixed (tab_cons ok63 tab_nil) Tryz.func73 k73
theorem ok72 : FnOk Tryz.prog GW 72 ⟨s72, d72⟩ := c_fn_ok (tab := ⟨_, ks0⟩) mixed (tab_cons ok73 tab_nil) Tryz.func72 k72
theorem ok96 : FnOk Tryz.prog GW 96 ⟨s96, d96⟩ := c_fn_ok (tab := ⟨_, ks0⟩) mixed (tab_cons ok72 tab_nil) Tryz.func96 k96
theorem ok103 : FnOk Tryz.prog GW 103 ⟨s103, d103⟩ := c_fn_ok (tab := ⟨_, ks0⟩) mixed (tab_cons ok72 (tab_cons ok96 tab_nil)) Tryz.func103 k103
theorem ok95 : FnOk Tryz.prog GW 95 ⟨s95, d95⟩ := c_fn_ok (tab := ⟨_, ks0⟩) mixed (tab_cons ok103 (tab_cons ok72 (tab_cons ok96 tab_nil))) Tryz.func95 k95
theorem ok71 : FnOk Tryz.prog GW 71 ⟨s71, d71⟩ := c_fn_ok (tab := ⟨_, ks0⟩) mixed (tab_cons ok96 (tab_cons ok95 (tab_cons ok72 tab_nil))) Tryz.func71 k71
theorem ok70 : FnOk Tryz.prog GW 70 ⟨s70, d70⟩ := c_fn_ok (tab := ⟨_, ks0⟩) mixed (tab_cons ok72 (tab_cons ok71 tab_nil)) Tryz.func70 k70
theorem ok76 : FnOk Tryz.prog GW 76 ⟨s76, d76⟩ := c_fn_ok (tab := ⟨_, ks0⟩) mixed (tab_cons ok63 tab_nil) Tryz.func76 k76
theorem ok98 : FnOk Tryz.prog GW 98 ⟨s98, d98⟩ := c_fn_ok (tab := ⟨_, ks0⟩) mixed (tab_cons ok76 tab_nil) Tryz.func98 k98
theorem ok104 : FnOk Tryz.prog GW 104 ⟨s104, d104⟩ := c_fn_ok (tab := ⟨_, ks0⟩) mixed (tab_cons ok76 (tab_cons ok98 tab_nil)) Tryz.func104 k104
theorem ok97 : FnOk Tryz.prog GW 97 ⟨s97, d97⟩ := c_fn_ok (tab := ⟨_, ks0⟩) mixed (tab_cons ok104 (tab_cons ok76 (tab_cons ok98 tab_nil))) Tryz.func97 k97
theorem ok75 : FnOk Tryz.prog GW 75 ⟨s75, d75⟩ := c_fn_ok (tab := ⟨_, ks0⟩) mixed (tab_cons ok98 (tab_cons ok97 (tab_cons ok76 tab_nil))) Tryz.func75 k75
theorem ok74 : FnOk Tryz.prog GW 74 ⟨s74, d74⟩ := c_fn_ok (tab := ⟨_, ks0⟩) mixed (tab_cons ok75 (tab_cons ok76 tab_nil)) Tryz.func74 k74
theorem ok79 : FnOk Tryz.prog GW 79 ⟨s79, d79⟩ := c_fn_ok (tab := ⟨_, ks0⟩) mixed (tab_cons ok63 tab_nil) Tryz.func79 k79
theorem ok100 : FnOk Tryz.prog GW 100 ⟨s100, d100⟩ := c_fn_ok (tab := ⟨_, ks0⟩) mixed (tab_cons ok79 tab_nil) Tryz.func100 k100
theorem ok105 : FnOk Tryz.prog GW 105 ⟨s105, d105⟩ := c_fn_ok (tab := ⟨_, ks0⟩) mixed (tab_cons ok79 (tab_cons ok100 tab_nil)) Tryz.func105 k105
theorem ok99 : FnOk Tryz.prog GW 99 ⟨s99, d99⟩ := c_fn_ok (tab := ⟨_, ks0⟩) mixed (tab_cons ok105 (tab_cons ok79 (tab_cons ok100 tab_nil))) Tryz.func99 k99
theorem ok78 : FnOk Tryz.prog GW 78 ⟨s78, d78⟩ := c_fn_ok (tab := ⟨_, ks0⟩) mixed (tab_cons ok100 (tab_cons ok99 (tab_cons ok79 tab_nil))) Tryz.func78 k78
theorem ok77 : FnOk Tryz.prog GW 77 ⟨s77, d77⟩ := c_fn_ok (tab := ⟨_, ks0⟩) mixed (tab_cons ok78 (tab_cons ok79 tab_nil)) Tryz.func77 k77
theorem ok82 : FnOk Tryz.prog GW 82 ⟨s82, d82⟩ := c_fn_ok (tab := ⟨_, ks0⟩) mixed (tab_cons ok63 tab_nil) Tryz.func82 k82
theorem ok101 : FnOk Tryz.prog GW 101 ⟨s101, d101⟩ := c_fn_ok (tab := ⟨_, ks0⟩) mixed (tab_cons ok82 tab_nil) Tryz.func101 k101
theorem ok36 : FnOk Tryz.prog GW 36 ⟨s36, d36⟩ := c_fn_ok (tab := ⟨_, ks0⟩) mixed (tab_cons ok82 (tab_cons ok101 tab_nil)) Tryz.func36 k36
theorem ok23 : FnOk Tryz.prog GW 23 ⟨s23, d23⟩ := c_fn_ok (tab := ⟨_, ks0⟩) mixed (tab_cons ok20 tab_nil) Tryz.func23 k23
theorem ok36x1 : FnOk Tryz.prog GW 36 ⟨s36x1, d36x1⟩ := c_fn_ok (tab := ⟨_, ks0⟩) mixed (tab_cons ok23 tab_nil) Tryz.func36 k36x1
theorem ok22 : FnOk Tryz.prog GW 22 ⟨s22, d22⟩ := c_fn_ok (tab := ⟨_, ks0⟩) mixed (tab_cons ok36x1 (tab_cons ok36 (tab_cons ok82 (tab_cons ok101 tab_nil)))) Tryz.func22 k22
theorem ok22x1 : FnOk Tryz.prog GW 22 ⟨s22x1, d22x1⟩ := c_fn_ok (tab := ⟨_, ks0⟩) mixed (tab_cons ok36x1 (tab_cons ok36 (tab_cons ok23 tab_nil))) Tryz.func22 k22x1
theorem ok81 : FnOk Tryz.prog GW 81 ⟨s81, d81⟩ := c_fn_ok (tab := ⟨_, ks0⟩) mixed (tab_cons ok101 (tab_cons ok22x1 (tab_cons ok22 (tab_cons ok82 tab_nil)))) Tryz.func81 k81
theorem ok80 : FnOk Tryz.prog GW 80 ⟨s80, d80⟩ := c_fn_ok (tab := ⟨_, ks0⟩) mixed (tab_cons ok81 (tab_cons ok82 tab_nil)) Tryz.func80 k80
theorem ok83 : FnOk Tryz.prog GW 83 ⟨s83, d83⟩ := c_fn_ok (tab := ⟨_, ks0⟩) mixed (tab_cons ok63 tab_nil) Tryz.func83 k83
theorem ok40 : FnOk Tryz.prog GW 40 ⟨s40, d40⟩ := c_fn_ok (tab := ⟨_, ks0⟩) mixed (tab_cons ok62 (tab_cons ok64 (tab_cons ok65 (tab_cons ok68 (tab_cons ok69 (tab_cons ok70 (tab_cons ok74 (tab_cons ok77 (tab_cons ok80 (tab_cons ok83 tab_nil)))))))))) Tryz.func40 k40
theorem ok66 : FnOk Tryz.prog GW 66 ⟨s66, d66⟩ := c_fn_ok (tab := ⟨_, ks0⟩) mixed (tab_cons ok63 tab_nil) Tryz.func66 k66
theorem ok94 : FnOk Tryz.prog GW 94 ⟨s94, d94⟩ := c_fn_ok (tab := ⟨_, ks0⟩) mixed tab_nil Tryz.func94 k94
theorem ok67 : FnOk Tryz.prog GW 67 ⟨s67, d67⟩ := c_fn_ok (tab := ⟨_, ks0⟩) mixed (tab_cons ok94 tab_nil) Tryz.func67 k67
theorem ok42 : FnOk Tryz.prog GW 42 ⟨s42, d42⟩ := c_fn_ok (tab := ⟨_, ks0⟩) mixed (tab_cons ok66 (tab_cons ok67 tab_nil)) Tryz.func42 k42
theorem ok43 : FnOk Tryz.prog GW 43 ⟨s43, d43⟩ := c_fn_ok (tab := ⟨_, ks0⟩) mixed (tab_cons ok68 (tab_cons ok69 (tab_cons ok70 (tab_cons ok74 (tab_cons ok77 (tab_cons ok80 (tab_cons ok83 tab_nil))))))) Tryz.func43 k43
theorem ok44 : FnOk Tryz.prog GW 44 ⟨s44, d44⟩ := c_fn_ok (tab := ⟨_, ks0⟩) mixed (tab_cons ok63 tab_nil) Tryz.func44 k44
theorem ok84 : FnOk Tryz.prog GW 84 ⟨s84, d84⟩ := c_fn_ok (tab := ⟨_, ks0⟩) mixed (tab_cons ok63 tab_nil) Tryz.func84 k84
theorem ok45 : FnOk Tryz.prog GW 45 ⟨s45, d45⟩ := c_fn_ok (tab := ⟨_, ks0⟩) mixed (tab_cons ok63 (tab_cons ok84 tab_nil)) Tryz.func45 k45
theorem ok28 : FnOk Tryz.prog GW 28 ⟨s28, d28⟩ := c_fn_ok (tab := ⟨_, ks0⟩) mixed (tab_cons ok41 (tab_cons ok40 (tab_cons ok42 (tab_cons ok43 (tab_cons ok44 (tab_cons ok45 tab_nil)))))) Tryz.func28 k28
theorem ok11 : FnOk Tryz.prog GW 11 ⟨s11, d11⟩ := c_fn_ok (tab := ⟨_, ks0⟩) mixed (tab_cons ok28 (tab_cons ok27 tab_nil)) Tryz.func11 k11
theorem ok19 : FnOk Tryz.prog GW 19 ⟨s19, d19⟩ := c_fn_ok (tab := ⟨_, ks0⟩) mixed (tab_cons ok20 tab_nil) Tryz.func19 k19
theorem ok21 : FnOk Tryz.prog GW 21 ⟨s21, d21⟩ := c_fn_ok (tab := ⟨_, ks0⟩) mixed (tab_cons ok23 (tab_cons ok22x1 (tab_cons ok22 tab_nil))) Tryz.func21 k21
theorem ok30 : FnOk Tryz.prog GW 30 ⟨s30, d30⟩ := c_fn_ok (tab := ⟨_, ks0⟩) mixed tab_nil Tryz.func30 k30
theorem ok46 : FnOk Tryz.prog GW 46 ⟨s46, d46⟩ := c_fn_ok (tab := ⟨_, ks0⟩) mixed tab_nil Tryz.func46 k46
theorem ok32 : FnOk Tryz.prog GW 32 ⟨s32, d32⟩ := c_fn_ok (tab := ⟨_, ks0⟩) mixed (tab_cons ok46 tab_nil) Tryz.func32 k32
theorem ok31 : FnOk Tryz.prog GW 31 ⟨s31, d31⟩ := c_fn_ok (tab := ⟨_, ks0⟩) mixed (tab_cons ok32 tab_nil) Tryz.func31 k31
end Go.Proofs.YtjnnmgjpnbfhlaaGreatDoor.L
