/-
  PLAIN LAWS: powers of e, at eighths from -8 to 8: told by computing. (No program here.)
-/
import Derived.Test.YtkcdccfajjhacaaLog2
set_option exponentiation.threshold 5000
set_option linter.unusedVariables false
set_option linter.unusedSimpArgs false
namespace Go.Fl
open Go Ieee

def serE (t : Nat) : Nat → Nat → Nat
  | 0, p => p
  | k + 1, p => serE t k (fop .add .f64 c1 (fop .quo .f64 (fop .mul .f64 t p) (fi ((k + 1 : Nat) : Int))))
def sqs : Nat → Nat → Nat
  | 0, p => p
  | k + 1, p => sqs k (fop .mul .f64 p p)
def expW (X : Nat) : Nat := sqs 8 (serE (fop .quo .f64 (wid X) 4643211215818981376) 12 c1)
/-- n eighths, as a 32-bit number -/
def e8 (n : Int) : Nat := fop .quo .f32 (floatOfInt .f32 n) 1090519040
def gapF (A B : Nat) : Nat := if flt .f64 A B then fop .sub .f64 B A else fop .sub .f64 A B
abbrev c001 : Nat := 4562254508917369340

def tabE : List Nat := [967827720, 969362444, 971101513, 973072137, 974191837, 975457003, 976890623, 978515128, 980355933, 981954487, 983136307, 984475485, 985992972, 987712511, 989661003, 990862339, 992113296, 993530815, 995137075, 996957207, 998632019, 999800566, 1001124704, 1002625149, 1004325375, 1006251984, 1007534039, 1008770946, 1010172546, 1011760767, 1013560457, 1015310670, 1016466094, 1017775360, 1019258954, 1020940085, 1022845057, 1024206924, 1025429940, 1026815799, 1028386182, 1030165660, 1031990428, 1033132876, 1034427438, 1035894369, 1037556620, 1039440198, 1040880981, 1042090262, 1043460556, 1045013303, 1046772796, 1048671281, 1049800898, 1051080921, 1052531378, 1054174960, 1056037383, 1057556197, 1058751896, 1060106801, 1061642109, 1063381841, 1065353216, 1066470146, 1067735794, 1069169961, 1070795084, 1072636591, 1074232558, 1075414828, 1076754516, 1078272582, 1079992775, 1081942010, 1083140607, 1084392041, 1085810101, 1087416973, 1089237798, 1090910051, 1092079044, 1093403686, 1094904703, 1096605577, 1098532920, 1099812267, 1101049646, 1102451780, 1104040606, 1105840981, 1107588665, 1108744529, 1110054295, 1111538453, 1113220225, 1115125923, 1116485113, 1117708595, 1119094981, 1120665963, 1122446119, 1124268386, 1125411269, 1126706325, 1128173815, 1129836699, 1131720994, 1133159130, 1134368872, 1135739688, 1137293027, 1139053190, 1140949202, 1142079249, 1143359761, 1144810770, 1146454979, 1148318112, 1149834307, 1151030462, 1152385883, 1153921776, 1155662171, 1157631101, 1158748457, 1160014587, 1161449300]
def tabL : List Nat := [3229614080, 3229089792, 3228565504, 3228041216, 3227516928, 3226992640, 3226468352, 3225944064, 3225419776, 3224895488, 3224371200, 3223846912, 3223322624, 3222798336, 3222274048, 3221749760, 3221225472, 3220176896, 3219128320, 3218079744, 3217031168, 3215982592, 3214934016, 3213885440, 3212836864, 3210739712, 3208642560, 3206545407, 3204448256, 3200253951, 3196059648, 3187671041, 0, 1040187389, 1048576000, 1052770305, 1056964607, 1059061760, 1061158913, 1063256064, 1065353215, 1066401792, 1067450368, 1068498944, 1069547520, 1070596096, 1071644672, 1072693248, 1073741824, 1074266112, 1074790400, 1075314688, 1075838976, 1076363264, 1076887552, 1077411840, 1077936128, 1078460416, 1078984704, 1079508992, 1080033280, 1080557568, 1081081856, 1081606144, 1082130432]

theorem tabE_all : (List.range 129).all (fun n => nar (expW (e8 ((n : Int) - 64))) == tabE.getD n 0 && (floatToFloatBits .f64 (expW (e8 ((n : Int) - 64))) .f32).isSome &&
    !fgt .f32 (e8 ((n : Int) - 64)) 1128792064 && !flt .f32 (e8 ((n : Int) - 64)) 3276275712) = true := by decide +kernel
theorem tabE_at {n : Nat} (h : n < 129) : nar (expW (e8 ((n : Int) - 64))) = tabE.getD n 0 ∧ NoOv (expW (e8 ((n : Int) - 64))) ∧
    fgt .f32 (e8 ((n : Int) - 64)) 1128792064 = false ∧ flt .f32 (e8 ((n : Int) - 64)) 3276275712 = false := by
  have := List.all_eq_true.1 tabE_all n (List.mem_range.2 h)
  simp only [Bool.and_eq_true, beq_iff_eq, Bool.not_eq_true'] at this
  exact ⟨this.1.1.1, .inr this.1.1.2, this.1.2, this.2⟩
theorem tabL_all : (List.range 65).all (fun n => logN (tabE.getD (n + 32) 0) == tabL.getD n 0 && flt .f64 (gapF (wid (tabL.getD n 0)) (wid (e8 ((n : Int) - 32)))) c001 && fgt .f32 (tabE.getD (n + 32) 0) 0) = true := by decide +kernel
theorem tabL_at {n : Nat} (h : n < 65) : flt .f64 (gapF (wid (logN (tabE.getD (n + 32) 0))) (wid (e8 ((n : Int) - 32)))) c001 = true ∧ fgt .f32 (tabE.getD (n + 32) 0) 0 = true := by
  have := List.all_eq_true.1 tabL_all n (List.mem_range.2 h)
  simp only [Bool.and_eq_true, beq_iff_eq] at this
  rw [this.1.1]
  exact ⟨this.1.2, this.2⟩
theorem pairs0 : (List.range 13).all (fun i => (List.range 65).all (fun j => flt .f64 (gapF (fop .mul .f64 (wid (tabE.getD (i + 0 + 32) 0)) (wid (tabE.getD (j + 32) 0))) (wid (tabE.getD (i + 0 + j) 0))) (fop .mul .f64 c001 (wid (tabE.getD (i + 0 + j) 0))) &&
    fop .add .f32 (e8 ((i + 0 : Nat) - 32)) (e8 ((j : Int) - 32)) == e8 ((i + 0 + j : Nat) - 64))) = true := by decide +kernel
theorem pairs1 : (List.range 13).all (fun i => (List.range 65).all (fun j => flt .f64 (gapF (fop .mul .f64 (wid (tabE.getD (i + 13 + 32) 0)) (wid (tabE.getD (j + 32) 0))) (wid (tabE.getD (i + 13 + j) 0))) (fop .mul .f64 c001 (wid (tabE.getD (i + 13 + j) 0))) &&
    fop .add .f32 (e8 ((i + 13 : Nat) - 32)) (e8 ((j : Int) - 32)) == e8 ((i + 13 + j : Nat) - 64))) = true := by decide +kernel
theorem pairs2 : (List.range 13).all (fun i => (List.range 65).all (fun j => flt .f64 (gapF (fop .mul .f64 (wid (tabE.getD (i + 26 + 32) 0)) (wid (tabE.getD (j + 32) 0))) (wid (tabE.getD (i + 26 + j) 0))) (fop .mul .f64 c001 (wid (tabE.getD (i + 26 + j) 0))) &&
    fop .add .f32 (e8 ((i + 26 : Nat) - 32)) (e8 ((j : Int) - 32)) == e8 ((i + 26 + j : Nat) - 64))) = true := by decide +kernel
theorem pairs3 : (List.range 13).all (fun i => (List.range 65).all (fun j => flt .f64 (gapF (fop .mul .f64 (wid (tabE.getD (i + 39 + 32) 0)) (wid (tabE.getD (j + 32) 0))) (wid (tabE.getD (i + 39 + j) 0))) (fop .mul .f64 c001 (wid (tabE.getD (i + 39 + j) 0))) &&
    fop .add .f32 (e8 ((i + 39 : Nat) - 32)) (e8 ((j : Int) - 32)) == e8 ((i + 39 + j : Nat) - 64))) = true := by decide +kernel
theorem pairs4 : (List.range 13).all (fun i => (List.range 65).all (fun j => flt .f64 (gapF (fop .mul .f64 (wid (tabE.getD (i + 52 + 32) 0)) (wid (tabE.getD (j + 32) 0))) (wid (tabE.getD (i + 52 + j) 0))) (fop .mul .f64 c001 (wid (tabE.getD (i + 52 + j) 0))) &&
    fop .add .f32 (e8 ((i + 52 : Nat) - 32)) (e8 ((j : Int) - 32)) == e8 ((i + 52 + j : Nat) - 64))) = true := by decide +kernel
theorem pairs {i j : Nat} (hi : i < 65) (hj : j < 65) : flt .f64 (gapF (fop .mul .f64 (wid (tabE.getD (i + 32) 0)) (wid (tabE.getD (j + 32) 0))) (wid (tabE.getD (i + j) 0))) (fop .mul .f64 c001 (wid (tabE.getD (i + j) 0))) = true ∧
    fop .add .f32 (e8 ((i : Int) - 32)) (e8 ((j : Int) - 32)) = e8 ((i + j : Nat) - 64) := by
  by_cases g0 : i < 13
  · have := List.all_eq_true.1 (List.all_eq_true.1 pairs0 (i - 0) (List.mem_range.2 (by omega))) j (List.mem_range.2 hj)
    rw [Bool.and_eq_true, beq_iff_eq, show i - 0 + 0 = i by omega] at this
    exact this
  by_cases g1 : i < 26
  · have := List.all_eq_true.1 (List.all_eq_true.1 pairs1 (i - 13) (List.mem_range.2 (by omega))) j (List.mem_range.2 hj)
    rw [Bool.and_eq_true, beq_iff_eq, show i - 13 + 13 = i by omega] at this
    exact this
  by_cases g2 : i < 39
  · have := List.all_eq_true.1 (List.all_eq_true.1 pairs2 (i - 26) (List.mem_range.2 (by omega))) j (List.mem_range.2 hj)
    rw [Bool.and_eq_true, beq_iff_eq, show i - 26 + 26 = i by omega] at this
    exact this
  by_cases g3 : i < 52
  · have := List.all_eq_true.1 (List.all_eq_true.1 pairs3 (i - 39) (List.mem_range.2 (by omega))) j (List.mem_range.2 hj)
    rw [Bool.and_eq_true, beq_iff_eq, show i - 39 + 39 = i by omega] at this
    exact this
  have := List.all_eq_true.1 (List.all_eq_true.1 pairs4 (i - 52) (List.mem_range.2 (by omega))) j (List.mem_range.2 hj)
  rw [Bool.and_eq_true, beq_iff_eq, show i - 52 + 52 = i by omega] at this
  exact this
theorem e8_zero : e8 0 = 0 := by decide +kernel
theorem tab_one : tabE.getD 64 0 = 1065353216 := by decide
theorem log_one : logN 1065353216 = 0 := by decide +kernel
end Go.Fl
