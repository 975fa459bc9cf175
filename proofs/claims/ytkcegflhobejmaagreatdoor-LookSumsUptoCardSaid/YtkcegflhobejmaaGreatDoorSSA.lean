/- Part of a proof that a law of the given program answers true. -/
import Derived.Test.YtkcegflhobejmaaGreatDoorSCA
import Derived.Test.YtkcegflhobejmaaGreatDoorXEC
import Derived.Test.YtkcegflhobejmaaGreatDoorXED
set_option linter.unusedSimpArgs false
set_option linter.unusedVariables false
set_option maxHeartbeats 4000000
namespace Go.Proofs
open Go.E
theorem within_arith {i n : Int} (hn : 0 < n) (h : n ≤ 4611686018427387904) : (if i.tmod n < 0 then IntKind.i64.wrap (i.tmod n + n) else i.tmod n) = i % n := by
 have h1 := Int.tmod_lt_of_pos i hn
 have h2 : - n < i.tmod n := by
  have := Int.tmod_lt_of_pos (-i) hn
  rw [Int.neg_tmod] at this; omega
 have e : i.tmod n = i % n ∨ i.tmod n + n = i % n := by
  rw [Int.tmod_eq_emod]
  have := Int.emod_lt_of_pos i hn
  have := Int.emod_nonneg i (show n ≠ 0 by omega)
  split
  · left; omega
  · right; omega
 have h3 := Int.emod_nonneg i (show n ≠ 0 by omega)
 have h4 := Int.emod_lt_of_pos i hn
 split
 · rw [wrap64 (by omega) (by omega)]; omega
 · omega
theorem yuccaref0_Within {i n : Int} (hn : 0 < n) (hm : n ≤ 4611686018427387904) : Pure Tryz.prog 24 [vi i, vi n] (vi (i % n)) := by
 refine pure_intro Tryz.func24 e24_nm e24_ok (by show 2 ≤ 15; decide) ?_
 show ewp _ e24n10 _ _
 have e := within_arith (i := i) hn hm
 by_cases h : i.tmod n < 0
 · rw [if_pos h] at e
   have hne : ¬ (n = 0) := by omega
   repeat' with_reducible first
    | refine s_ ?_
    | simp -implicitDefEqProofs only [wZZ, seval, hne, e]
    | (refine condQ_j (fun h h_ => ?_) (fun h h_ => ?_) <;> (try simp only [wD, reduceCtorEq] at h_) <;> (try exact wb_) <;> (try simp only [h]))
   refine post1 rfl (Or.inr rfl) ?_
   simp -implicitDefEqProofs only [wL, seval]
   first | refine er_bool ?_ | refine er_int ?_ | refine er_str ?_ | refine er_sl_eq ?_ | refine er_asl_eq ?_
   try (with_reducible rfl)
 · rw [if_neg h] at e
   have hne : ¬ (n = 0) := by omega
   repeat' with_reducible first
    | refine s_ ?_
    | simp -implicitDefEqProofs only [wZZ, seval, hne, e]
    | (refine condQ_j (fun h h_ => ?_) (fun h h_ => ?_) <;> (try simp only [wD, reduceCtorEq] at h_) <;> (try exact wb_) <;> (try simp only [h]))
   refine post1 rfl (Or.inr rfl) ?_
   simp -implicitDefEqProofs only [wL, seval]
   first | refine er_bool ?_ | refine er_int ?_ | refine er_str ?_ | refine er_sl_eq ?_ | refine er_asl_eq ?_
   try (with_reducible rfl)

set_option maxRecDepth 100000
def tabL : List (FuncId × Bool × EF) := [(6, false, e6), (10, false, e10), (13, false, e13), (15, false, e15), (17, false, e17), (18, false, e18), (20, false, e20), (22, false, e22), (24, false, e24), (25, false, e25), (26, false, e26), (28, false, e28), (31, false, e31), (33, false, e33), (34, false, e34), (36, false, e36), (37, false, e37), (38, false, e38), (50, false, e50), (51, false, e51), (52, false, e52), (53, true, e53), (56, true, e56), (59, false, e59), (62, false, e62), (63, false, e63), (65, false, e65), (66, false, e66), (67, false, e67), (68, false, e68), (70, false, e70), (72, false, e72), (75, true, e75), (83, false, e83), (84, false, e84), (85, false, e85), (86, false, e86), (87, false, e87), (88, false, e88), (89, true, e89), (90, true, e90), (91, false, e91), (92, false, e92), (93, false, e93), (94, false, e94), (95, false, e95), (96, false, e96), (97, false, e97), (98, false, e98), (101, false, e101), (102, false, e102), (103, true, e103), (104, false, e104), (106, false, e106), (107, false, e107), (108, true, e108), (109, false, e109), (110, true, e110), (115, true, e115), (116, false, e116), (117, false, e117), (118, false, e118), (119, false, e119), (120, true, e120), (121, true, e121), (122, false, e122), (123, false, e123), (124, false, e124), (125, false, e125), (127, false, e127), (128, false, e128), (129, true, e129), (130, false, e130), (131, true, e131), (132, true, e132), (133, false, e133), (134, false, e134), (135, true, e135), (136, true, e136), (137, true, e137), (143, false, e143), (147, false, e147), (148, false, e148), (149, false, e149), (150, false, e150), (151, false, e151), (153, true, e153), (156, true, e156), (158, true, e158), (160, true, e160), (161, false, e161), (162, false, e162), (163, true, e163), (169, false, e169), (170, false, e170), (175, true, e175), (178, true, e178)]
theorem tok : TOk Tryz.prog tabL := ⟨⟨_, _, Tryz.func6, e6_nm, e6_ok⟩, ⟨_, _, Tryz.func10, e10_nm, e10_ok⟩, ⟨_, _, Tryz.func13, e13_nm, e13_ok⟩, ⟨_, _, Tryz.func15, e15_nm, e15_ok⟩, ⟨_, _, Tryz.func17, e17_nm, e17_ok⟩, ⟨_, _, Tryz.func18, e18_nm, e18_ok⟩, ⟨_, _, Tryz.func20, e20_nm, e20_ok⟩, ⟨_, _, Tryz.func22, e22_nm, e22_ok⟩, ⟨_, _, Tryz.func24, e24_nm, e24_ok⟩, ⟨_, _, Tryz.func25, e25_nm, e25_ok⟩, ⟨_, _, Tryz.func26, e26_nm, e26_ok⟩, ⟨_, _, Tryz.func28, e28_nm, e28_ok⟩, ⟨_, _, Tryz.func31, e31_nm, e31_ok⟩, ⟨_, _, Tryz.func33, e33_nm, e33_ok⟩, ⟨_, _, Tryz.func34, e34_nm, e34_ok⟩, ⟨_, _, Tryz.func36, e36_nm, e36_ok⟩, ⟨_, _, Tryz.func37, e37_nm, e37_ok⟩, ⟨_, _, Tryz.func38, e38_nm, e38_ok⟩, ⟨_, _, Tryz.func50, e50_nm, e50_ok⟩, ⟨_, _, Tryz.func51, e51_nm, e51_ok⟩, ⟨_, _, Tryz.func52, e52_nm, e52_ok⟩, ⟨_, _, Tryz.func53, e53_nm, e53_ok⟩, ⟨_, _, Tryz.func56, e56_nm, e56_ok⟩, ⟨_, _, Tryz.func59, e59_nm, e59_ok⟩, ⟨_, _, Tryz.func62, e62_nm, e62_ok⟩, ⟨_, _, Tryz.func63, e63_nm, e63_ok⟩, ⟨_, _, Tryz.func65, e65_nm, e65_ok⟩, ⟨_, _, Tryz.func66, e66_nm, e66_ok⟩, ⟨_, _, Tryz.func67, e67_nm, e67_ok⟩, ⟨_, _, Tryz.func68, e68_nm, e68_ok⟩, ⟨_, _, Tryz.func70, e70_nm, e70_ok⟩, ⟨_, _, Tryz.func72, e72_nm, e72_ok⟩, ⟨_, _, Tryz.func75, e75_nm, e75_ok⟩, ⟨_, _, Tryz.func83, e83_nm, e83_ok⟩, ⟨_, _, Tryz.func84, e84_nm, e84_ok⟩, ⟨_, _, Tryz.func85, e85_nm, e85_ok⟩, ⟨_, _, Tryz.func86, e86_nm, e86_ok⟩, ⟨_, _, Tryz.func87, e87_nm, e87_ok⟩, ⟨_, _, Tryz.func88, e88_nm, e88_ok⟩, ⟨_, _, Tryz.func89, e89_nm, e89_ok⟩, ⟨_, _, Tryz.func90, e90_nm, e90_ok⟩, ⟨_, _, Tryz.func91, e91_nm, e91_ok⟩, ⟨_, _, Tryz.func92, e92_nm, e92_ok⟩, ⟨_, _, Tryz.func93, e93_nm, e93_ok⟩, ⟨_, _, Tryz.func94, e94_nm, e94_ok⟩, ⟨_, _, Tryz.func95, e95_nm, e95_ok⟩, ⟨_, _, Tryz.func96, e96_nm, e96_ok⟩, ⟨_, _, Tryz.func97, e97_nm, e97_ok⟩, ⟨_, _, Tryz.func98, e98_nm, e98_ok⟩, ⟨_, _, Tryz.func101, e101_nm, e101_ok⟩, ⟨_, _, Tryz.func102, e102_nm, e102_ok⟩, ⟨_, _, Tryz.func103, e103_nm, e103_ok⟩, ⟨_, _, Tryz.func104, e104_nm, e104_ok⟩, ⟨_, _, Tryz.func106, e106_nm, e106_ok⟩, ⟨_, _, Tryz.func107, e107_nm, e107_ok⟩, ⟨_, _, Tryz.func108, e108_nm, e108_ok⟩, ⟨_, _, Tryz.func109, e109_nm, e109_ok⟩, ⟨_, _, Tryz.func110, e110_nm, e110_ok⟩, ⟨_, _, Tryz.func115, e115_nm, e115_ok⟩, ⟨_, _, Tryz.func116, e116_nm, e116_ok⟩, ⟨_, _, Tryz.func117, e117_nm, e117_ok⟩, ⟨_, _, Tryz.func118, e118_nm, e118_ok⟩, ⟨_, _, Tryz.func119, e119_nm, e119_ok⟩, ⟨_, _, Tryz.func120, e120_nm, e120_ok⟩, ⟨_, _, Tryz.func121, e121_nm, e121_ok⟩, ⟨_, _, Tryz.func122, e122_nm, e122_ok⟩, ⟨_, _, Tryz.func123, e123_nm, e123_ok⟩, ⟨_, _, Tryz.func124, e124_nm, e124_ok⟩, ⟨_, _, Tryz.func125, e125_nm, e125_ok⟩, ⟨_, _, Tryz.func127, e127_nm, e127_ok⟩, ⟨_, _, Tryz.func128, e128_nm, e128_ok⟩, ⟨_, _, Tryz.func129, e129_nm, e129_ok⟩, ⟨_, _, Tryz.func130, e130_nm, e130_ok⟩, ⟨_, _, Tryz.func131, e131_nm, e131_ok⟩, ⟨_, _, Tryz.func132, e132_nm, e132_ok⟩, ⟨_, _, Tryz.func133, e133_nm, e133_ok⟩, ⟨_, _, Tryz.func134, e134_nm, e134_ok⟩, ⟨_, _, Tryz.func135, e135_nm, e135_ok⟩, ⟨_, _, Tryz.func136, e136_nm, e136_ok⟩, ⟨_, _, Tryz.func137, e137_nm, e137_ok⟩, ⟨_, _, Tryz.func143, e143_nm, e143_ok⟩, ⟨_, _, Tryz.func147, e147_nm, e147_ok⟩, ⟨_, _, Tryz.func148, e148_nm, e148_ok⟩, ⟨_, _, Tryz.func149, e149_nm, e149_ok⟩, ⟨_, _, Tryz.func150, e150_nm, e150_ok⟩, ⟨_, _, Tryz.func151, e151_nm, e151_ok⟩, ⟨_, _, Tryz.func153, e153_nm, e153_ok⟩, ⟨_, _, Tryz.func156, e156_nm, e156_ok⟩, ⟨_, _, Tryz.func158, e158_nm, e158_ok⟩, ⟨_, _, Tryz.func160, e160_nm, e160_ok⟩, ⟨_, _, Tryz.func161, e161_nm, e161_ok⟩, ⟨_, _, Tryz.func162, e162_nm, e162_ok⟩, ⟨_, _, Tryz.func163, e163_nm, e163_ok⟩, ⟨_, _, Tryz.func169, e169_nm, e169_ok⟩, ⟨_, _, Tryz.func170, e170_nm, e170_ok⟩, ⟨_, _, Tryz.func175, e175_nm, e175_ok⟩, ⟨_, _, Tryz.func178, e178_nm, e178_ok⟩, trivial⟩
theorem fok_wk : FOk Tryz.prog [(10, [], .bool true)] := fok_step tok (n := 60) fok_nil (by kernel_rfl)
noncomputable def tabN (F : List Fct) (n k : Int) : Tab := ⟨tabX tabL, fun f xs => cond (Nat.beq f 24) (some (vi k, [(.tup xs, .tup [vi n, vi 10])])) (fctX F f xs)⟩
end Go.Proofs
