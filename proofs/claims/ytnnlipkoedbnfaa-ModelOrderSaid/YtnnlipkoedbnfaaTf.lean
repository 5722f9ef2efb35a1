/- Facts on types and functions, and readers of what comes in: printed by a program of the prover's own. -/
import Derived.Test.YtnnlipkoedbnfaaTm
import Derived.Test.YtnnlipkoedbnfaaProg
import Derived.Test.YtnnlipkoedbnfaaLa
import Derived.ProofKit
import Derived.OpenShut
import Derived.WideKeyArgs
set_option linter.unusedVariables false
namespace Go.Proofs.L
open Go.Lf Go.Crn
theorem mixed : Try.prog.follows .mixedOrders = true := by kernel_rfl
theorem tz29 : TyZ Try.prog 29 (.agg #[.int .i64 0, .int .i64 0, .int .i64 0, .int .i64 0, .int .i64 0, .int .i64 0, .int .i64 0, .int .i64 0]) := tyZ (by kernel_rfl)
theorem ts3 : TyS Try.prog 3 1 false := tyS Try.underlying3 (by kernel_rfl)
theorem bla29 : BLA Try.prog 29 [.int .i64 0, .int .i64 0, .int .i64 0, .int .i64 0, .int .i64 0, .int .i64 0, .int .i64 0, .int .i64 0] := ⟨_, _, _, _, tz29, rfl, Try.underlying29, ts3⟩
theorem tc10 : Callable Try.prog 10 := ⟨_, _, Try.func10, rfl, by kernel_rfl⟩
theorem tc11 : Callable Try.prog 11 := ⟨_, _, Try.func11, rfl, by kernel_rfl⟩
theorem tc12 : Callable Try.prog 12 := ⟨_, _, Try.func12, rfl, by kernel_rfl⟩
theorem tc13 : Callable Try.prog 13 := ⟨_, _, Try.func13, rfl, by kernel_rfl⟩
theorem tc14 : Callable Try.prog 14 := ⟨_, _, Try.func14, rfl, by kernel_rfl⟩
theorem tc15 : Callable Try.prog 15 := ⟨_, _, Try.func15, rfl, by kernel_rfl⟩
theorem tc16 : Callable Try.prog 16 := ⟨_, _, Try.func16, rfl, by kernel_rfl⟩
theorem tc17 : Callable Try.prog 17 := ⟨_, _, Try.func17, rfl, by kernel_rfl⟩
theorem tc18 : Callable Try.prog 18 := ⟨_, _, Try.func18, rfl, by kernel_rfl⟩
theorem tc19 : Callable Try.prog 19 := ⟨_, _, Try.func19, rfl, by kernel_rfl⟩
theorem tc20 : Callable Try.prog 20 := ⟨_, _, Try.func20, rfl, by kernel_rfl⟩
theorem tc21 : Callable Try.prog 21 := ⟨_, _, Try.func21, rfl, by kernel_rfl⟩
theorem tc22 : Callable Try.prog 22 := ⟨_, _, Try.func22, rfl, by kernel_rfl⟩
theorem tc23 : Callable Try.prog 23 := ⟨_, _, Try.func23, rfl, by kernel_rfl⟩
theorem tc24 : Callable Try.prog 24 := ⟨_, _, Try.func24, rfl, by kernel_rfl⟩
theorem tc25 : Callable Try.prog 25 := ⟨_, _, Try.func25, rfl, by kernel_rfl⟩
theorem tc26 : Callable Try.prog 26 := ⟨_, _, Try.func26, rfl, by kernel_rfl⟩
theorem tc27 : Callable Try.prog 27 := ⟨_, _, Try.func27, rfl, by kernel_rfl⟩
theorem tc28 : Callable Try.prog 28 := ⟨_, _, Try.func28, rfl, by kernel_rfl⟩
theorem tc29 : Callable Try.prog 29 := ⟨_, _, Try.func29, rfl, by kernel_rfl⟩
theorem tc30 : Callable Try.prog 30 := ⟨_, _, Try.func30, rfl, by kernel_rfl⟩
theorem tc31 : Callable Try.prog 31 := ⟨_, _, Try.func31, rfl, by kernel_rfl⟩
theorem tc32 : Callable Try.prog 32 := ⟨_, _, Try.func32, rfl, by kernel_rfl⟩
theorem tc33 : Callable Try.prog 33 := ⟨_, _, Try.func33, rfl, by kernel_rfl⟩
theorem tc34 : Callable Try.prog 34 := ⟨_, _, Try.func34, rfl, by kernel_rfl⟩
theorem tc35 : Callable Try.prog 35 := ⟨_, _, Try.func35, rfl, by kernel_rfl⟩
theorem tc37 : Callable Try.prog 37 := ⟨_, _, Try.func37, rfl, by kernel_rfl⟩
theorem tc38 : Callable Try.prog 38 := ⟨_, _, Try.func38, rfl, by kernel_rfl⟩
theorem tc39 : Callable Try.prog 39 := ⟨_, _, Try.func39, rfl, by kernel_rfl⟩
theorem tc4 : Callable Try.prog 4 := ⟨_, _, Try.func4, rfl, by kernel_rfl⟩
theorem tc40 : Callable Try.prog 40 := ⟨_, _, Try.func40, rfl, by kernel_rfl⟩
theorem tc41 : Callable Try.prog 41 := ⟨_, _, Try.func41, rfl, by kernel_rfl⟩
theorem tc42 : Callable Try.prog 42 := ⟨_, _, Try.func42, rfl, by kernel_rfl⟩
theorem tc43 : Callable Try.prog 43 := ⟨_, _, Try.func43, rfl, by kernel_rfl⟩
theorem tc44 : Callable Try.prog 44 := ⟨_, _, Try.func44, rfl, by kernel_rfl⟩
theorem tc45 : Callable Try.prog 45 := ⟨_, _, Try.func45, rfl, by kernel_rfl⟩
theorem tc46 : Callable Try.prog 46 := ⟨_, _, Try.func46, rfl, by kernel_rfl⟩
theorem tc47 : Callable Try.prog 47 := ⟨_, _, Try.func47, rfl, by kernel_rfl⟩
theorem tc48 : Callable Try.prog 48 := ⟨_, _, Try.func48, rfl, by kernel_rfl⟩
theorem tc49 : Callable Try.prog 49 := ⟨_, _, Try.func49, rfl, by kernel_rfl⟩
theorem tc5 : Callable Try.prog 5 := ⟨_, _, Try.func5, rfl, by kernel_rfl⟩
theorem tc50 : Callable Try.prog 50 := ⟨_, _, Try.func50, rfl, by kernel_rfl⟩
theorem tc51 : Callable Try.prog 51 := ⟨_, _, Try.func51, rfl, by kernel_rfl⟩
theorem tc52 : Callable Try.prog 52 := ⟨_, _, Try.func52, rfl, by kernel_rfl⟩
theorem tc53 : Callable Try.prog 53 := ⟨_, _, Try.func53, rfl, by kernel_rfl⟩
theorem tc54 : Callable Try.prog 54 := ⟨_, _, Try.func54, rfl, by kernel_rfl⟩
theorem tc55 : Callable Try.prog 55 := ⟨_, _, Try.func55, rfl, by kernel_rfl⟩
theorem tc56 : Callable Try.prog 56 := ⟨_, _, Try.func56, rfl, by kernel_rfl⟩
theorem tc57 : Callable Try.prog 57 := ⟨_, _, Try.func57, rfl, by kernel_rfl⟩
theorem tc58 : Callable Try.prog 58 := ⟨_, _, Try.func58, rfl, by kernel_rfl⟩
theorem tc59 : Callable Try.prog 59 := ⟨_, _, Try.func59, rfl, by kernel_rfl⟩
theorem tc6 : Callable Try.prog 6 := ⟨_, _, Try.func6, rfl, by kernel_rfl⟩
theorem tc60 : Callable Try.prog 60 := ⟨_, _, Try.func60, rfl, by kernel_rfl⟩
theorem tc61 : Callable Try.prog 61 := ⟨_, _, Try.func61, rfl, by kernel_rfl⟩
theorem tc62 : Callable Try.prog 62 := ⟨_, _, Try.func62, rfl, by kernel_rfl⟩
theorem tc63 : Callable Try.prog 63 := ⟨_, _, Try.func63, rfl, by kernel_rfl⟩
theorem tc64 : Callable Try.prog 64 := ⟨_, _, Try.func64, rfl, by kernel_rfl⟩
theorem tc65 : Callable Try.prog 65 := ⟨_, _, Try.func65, rfl, by kernel_rfl⟩
theorem tc66 : Callable Try.prog 66 := ⟨_, _, Try.func66, rfl, by kernel_rfl⟩
theorem tc67 : Callable Try.prog 67 := ⟨_, _, Try.func67, rfl, by kernel_rfl⟩
theorem tc68 : Callable Try.prog 68 := ⟨_, _, Try.func68, rfl, by kernel_rfl⟩
theorem tc69 : Callable Try.prog 69 := ⟨_, _, Try.func69, rfl, by kernel_rfl⟩
theorem tc7 : Callable Try.prog 7 := ⟨_, _, Try.func7, rfl, by kernel_rfl⟩
theorem tc70 : Callable Try.prog 70 := ⟨_, _, Try.func70, rfl, by kernel_rfl⟩
theorem tc71 : Callable Try.prog 71 := ⟨_, _, Try.func71, rfl, by kernel_rfl⟩
theorem tc72 : Callable Try.prog 72 := ⟨_, _, Try.func72, rfl, by kernel_rfl⟩
theorem tc73 : Callable Try.prog 73 := ⟨_, _, Try.func73, rfl, by kernel_rfl⟩
theorem tc74 : Callable Try.prog 74 := ⟨_, _, Try.func74, rfl, by kernel_rfl⟩
theorem tc75 : Callable Try.prog 75 := ⟨_, _, Try.func75, rfl, by kernel_rfl⟩
theorem tc76 : Callable Try.prog 76 := ⟨_, _, Try.func76, rfl, by kernel_rfl⟩
theorem tc77 : Callable Try.prog 77 := ⟨_, _, Try.func77, rfl, by kernel_rfl⟩
theorem tc78 : Callable Try.prog 78 := ⟨_, _, Try.func78, rfl, by kernel_rfl⟩
theorem tc79 : Callable Try.prog 79 := ⟨_, _, Try.func79, rfl, by kernel_rfl⟩
theorem tc8 : Callable Try.prog 8 := ⟨_, _, Try.func8, rfl, by kernel_rfl⟩
theorem tc80 : Callable Try.prog 80 := ⟨_, _, Try.func80, rfl, by kernel_rfl⟩
theorem tc81 : Callable Try.prog 81 := ⟨_, _, Try.func81, rfl, by kernel_rfl⟩
theorem tc82 : Callable Try.prog 82 := ⟨_, _, Try.func82, rfl, by kernel_rfl⟩
theorem tc83 : Callable Try.prog 83 := ⟨_, _, Try.func83, rfl, by kernel_rfl⟩
theorem tc84 : Callable Try.prog 84 := ⟨_, _, Try.func84, rfl, by kernel_rfl⟩
theorem tc85 : Callable Try.prog 85 := ⟨_, _, Try.func85, rfl, by kernel_rfl⟩
theorem tc86 : Callable Try.prog 86 := ⟨_, _, Try.func86, rfl, by kernel_rfl⟩
theorem tc87 : Callable Try.prog 87 := ⟨_, _, Try.func87, rfl, by kernel_rfl⟩
theorem tc88 : Callable Try.prog 88 := ⟨_, _, Try.func88, rfl, by kernel_rfl⟩
theorem tc89 : Callable Try.prog 89 := ⟨_, _, Try.func89, rfl, by kernel_rfl⟩
theorem tc9 : Callable Try.prog 9 := ⟨_, _, Try.func9, rfl, by kernel_rfl⟩
theorem tc90 : Callable Try.prog 90 := ⟨_, _, Try.func90, rfl, by kernel_rfl⟩
theorem tc91 : Callable Try.prog 91 := ⟨_, _, Try.func91, rfl, by kernel_rfl⟩
theorem tc92 : Callable Try.prog 92 := ⟨_, _, Try.func92, rfl, by kernel_rfl⟩
theorem tc93 : Callable Try.prog 93 := ⟨_, _, Try.func93, rfl, by kernel_rfl⟩
theorem tc94 : Callable Try.prog 94 := ⟨_, _, Try.func94, rfl, by kernel_rfl⟩
theorem eqv27 (x y : S_api_Stamp) : EqV Try.prog 2 27 (S_api_Stamp.enc x) (S_api_Stamp.enc y) (S_api_Stamp.eqb x y) := eqv_st Try.underlying27 Try.stoodInHeld27 (eqf_cons (k' := 1) (by decide) ts3 rfl rfl (eqv_int (t := 3) Try.underlying3) (by decide) (eqf_cons (k' := 1) (by decide) ts3 rfl rfl (eqv_int (t := 3) Try.underlying3) (by decide) (eqf_up eqf_nil (Nat.zero_le _))))
theorem eq27 (x y : S_api_Stamp) : BinR Try.prog .eql 27 (S_api_Stamp.enc x) (S_api_Stamp.enc y) (.bool (S_api_Stamp.eqb x y)) := bin_aeql Try.eqGuardType27 (eqv27 x y) (by decide)
theorem eqn27 (x y : S_api_Stamp) : BinR Try.prog .neq 27 (S_api_Stamp.enc x) (S_api_Stamp.enc y) (.bool (!(S_api_Stamp.eqb x y))) := bin_aneq Try.eqGuardType27 (eqv27 x y) (by decide)
theorem eqv29 (x y : A8 Int) : EqV Try.prog 2 29 ((A8.enc .i64) x) ((A8.enc .i64) y) (A8.eqb x y) := eqv_a8 Try.underlying29 Try.underlying3 (by kernel_rfl) (by kernel_rfl) ts3
theorem eq29 (x y : A8 Int) : BinR Try.prog .eql 29 ((A8.enc .i64) x) ((A8.enc .i64) y) (.bool (A8.eqb x y)) := bin_aeql Try.eqGuardType29 (eqv29 x y) (by decide)
theorem eqn29 (x y : A8 Int) : BinR Try.prog .neq 29 ((A8.enc .i64) x) ((A8.enc .i64) y) (.bool (!(A8.eqb x y))) := bin_aneq Try.eqGuardType29 (eqv29 x y) (by decide)
theorem ts47 : TyS Try.prog 47 1 false := tyS Try.underlying47 (by kernel_rfl)
theorem ts27 : TyS Try.prog 27 2 true := tyS Try.underlying27 (by kernel_rfl)
theorem eqv49 (x y : S_api_Attr) : EqV Try.prog 3 49 (S_api_Attr.enc x) (S_api_Attr.enc y) (S_api_Attr.eqb x y) := eqv_st Try.underlying49 Try.stoodInHeld49 (eqf_cons (k' := 2) (by decide) ts27 rfl rfl (eqv27 x.At y.At) (by decide) (eqf_cons (k' := 2) (by decide) ts3 rfl rfl (eqv_int (t := 3) Try.underlying3) (by decide) (eqf_cons (k' := 2) (by decide) ts47 rfl rfl (eqv_int (t := 47) Try.underlying47) (by decide) (eqf_up eqf_nil (Nat.zero_le _)))))
theorem eq49 (x y : S_api_Attr) : BinR Try.prog .eql 49 (S_api_Attr.enc x) (S_api_Attr.enc y) (.bool (S_api_Attr.eqb x y)) := bin_aeql Try.eqGuardType49 (eqv49 x y) (by decide)
theorem eqn49 (x y : S_api_Attr) : BinR Try.prog .neq 49 (S_api_Attr.enc x) (S_api_Attr.enc y) (.bool (!(S_api_Attr.eqb x y))) := bin_aneq Try.eqGuardType49 (eqv49 x y) (by decide)
theorem eqv51 (x y : S_api_Size) : EqV Try.prog 3 51 (S_api_Size.enc x) (S_api_Size.enc y) (S_api_Size.eqb x y) := eqv_st Try.underlying51 Try.stoodInHeld51 (eqf_cons (k' := 2) (by decide) ts27 rfl rfl (eqv27 x.At y.At) (by decide) (eqf_cons (k' := 2) (by decide) ts3 rfl rfl (eqv_int (t := 3) Try.underlying3) (by decide) (eqf_up eqf_nil (Nat.zero_le _))))
theorem eq51 (x y : S_api_Size) : BinR Try.prog .eql 51 (S_api_Size.enc x) (S_api_Size.enc y) (.bool (S_api_Size.eqb x y)) := bin_aeql Try.eqGuardType51 (eqv51 x y) (by decide)
theorem eqn51 (x y : S_api_Size) : BinR Try.prog .neq 51 (S_api_Size.enc x) (S_api_Size.enc y) (.bool (!(S_api_Size.eqb x y))) := bin_aneq Try.eqGuardType51 (eqv51 x y) (by decide)
theorem ts29 : TyS Try.prog 29 8 true := tyS Try.underlying29 (by kernel_rfl)
theorem ts9 : TyS Try.prog 9 1 false := tyS Try.underlying9 (by kernel_rfl)
theorem eqv57 (x y : S_api_Link) : EqV Try.prog 3 57 (S_api_Link.enc x) (S_api_Link.enc y) (S_api_Link.eqb x y) := eqv_st Try.underlying57 Try.stoodInHeld57 (eqf_cons (k' := 2) (by decide) ts27 rfl rfl (eqv27 x.Id y.Id) (by decide) (eqf_cons (k' := 2) (by decide) ts27 rfl rfl (eqv27 x.Node y.Node) (by decide) (eqf_cons (k' := 2) (by decide) ts27 rfl rfl (eqv27 x.At y.At) (by decide) (eqf_cons (k' := 2) (by decide) ts27 rfl rfl (eqv27 x.Parent y.Parent) (by decide) (eqf_cons (k' := 2) (by decide) ts9 rfl rfl (eqv_str (t := 9) Try.underlying9) (by decide) (eqf_cons (k' := 2) (by decide) ts29 rfl rfl (eqv29 x.Alive y.Alive) (by decide) (eqf_cons (k' := 2) (by decide) ts29 rfl rfl (eqv29 x.Dead y.Dead) (by decide) (eqf_up eqf_nil (Nat.zero_le _)))))))))
theorem eq57 (x y : S_api_Link) : BinR Try.prog .eql 57 (S_api_Link.enc x) (S_api_Link.enc y) (.bool (S_api_Link.eqb x y)) := bin_aeql Try.eqGuardType57 (eqv57 x y) (by decide)
theorem eqn57 (x y : S_api_Link) : BinR Try.prog .neq 57 (S_api_Link.enc x) (S_api_Link.enc y) (.bool (!(S_api_Link.eqb x y))) := bin_aneq Try.eqGuardType57 (eqv57 x y) (by decide)
theorem eqv60 (x y : S_api_Piece) : EqV Try.prog 3 60 (S_api_Piece.enc x) (S_api_Piece.enc y) (S_api_Piece.eqb x y) := eqv_st Try.underlying60 Try.stoodInHeld60 (eqf_cons (k' := 2) (by decide) ts3 rfl rfl (eqv_int (t := 3) Try.underlying3) (by decide) (eqf_cons (k' := 2) (by decide) ts27 rfl rfl (eqv27 x.At y.At) (by decide) (eqf_cons (k' := 2) (by decide) ts9 rfl rfl (eqv_str (t := 9) Try.underlying9) (by decide) (eqf_up eqf_nil (Nat.zero_le _)))))
theorem eq60 (x y : S_api_Piece) : BinR Try.prog .eql 60 (S_api_Piece.enc x) (S_api_Piece.enc y) (.bool (S_api_Piece.eqb x y)) := bin_aeql Try.eqGuardType60 (eqv60 x y) (by decide)
theorem eqn60 (x y : S_api_Piece) : BinR Try.prog .neq 60 (S_api_Piece.enc x) (S_api_Piece.enc y) (.bool (!(S_api_Piece.eqb x y))) := bin_aneq Try.eqGuardType60 (eqv60 x y) (by decide)
theorem ts4 : TyS Try.prog 4 1 false := tyS Try.underlying4 (by kernel_rfl)
theorem eqv62 (x y : S_api_Xattr) : EqV Try.prog 3 62 (S_api_Xattr.enc x) (S_api_Xattr.enc y) (S_api_Xattr.eqb x y) := eqv_st Try.underlying62 Try.stoodInHeld62 (eqf_cons (k' := 2) (by decide) ts9 rfl rfl (eqv_str (t := 9) Try.underlying9) (by decide) (eqf_cons (k' := 2) (by decide) ts27 rfl rfl (eqv27 x.At y.At) (by decide) (eqf_cons (k' := 2) (by decide) ts9 rfl rfl (eqv_str (t := 9) Try.underlying9) (by decide) (eqf_cons (k' := 2) (by decide) ts4 rfl rfl (eqv_bool (t := 4) Try.underlying4) (by decide) (eqf_up eqf_nil (Nat.zero_le _))))))
theorem eq62 (x y : S_api_Xattr) : BinR Try.prog .eql 62 (S_api_Xattr.enc x) (S_api_Xattr.enc y) (.bool (S_api_Xattr.eqb x y)) := bin_aeql Try.eqGuardType62 (eqv62 x y) (by decide)
theorem eqn62 (x y : S_api_Xattr) : BinR Try.prog .neq 62 (S_api_Xattr.enc x) (S_api_Xattr.enc y) (.bool (!(S_api_Xattr.eqb x y))) := bin_aneq Try.eqGuardType62 (eqv62 x y) (by decide)
theorem fa27_0 : FA Try.prog 27 0 0 := fa_mk Try.underlying27 rfl rfl ts3
theorem fa27_1 : FA Try.prog 27 1 1 := fa_mk Try.underlying27 rfl rfl ts3
theorem fa33_0 : FA Try.prog 33 0 0 := fa_mk Try.underlying33 rfl rfl ts29
theorem ts30 : TyS Try.prog 30 1 false := tyS Try.underlying30 (by kernel_rfl)
theorem fa33_1 : FA Try.prog 33 1 8 := fa_mk Try.underlying33 rfl rfl ts30
theorem ts31 : TyS Try.prog 31 1 false := tyS Try.underlying31 (by kernel_rfl)
theorem fa33_2 : FA Try.prog 33 2 9 := fa_mk Try.underlying33 rfl rfl ts31
theorem fa35_0 : FA Try.prog 35 0 0 := fa_mk Try.underlying35 rfl rfl ts27
theorem fa35_2 : FA Try.prog 35 2 3 := fa_mk Try.underlying35 rfl rfl ts29
theorem ts33 : TyS Try.prog 33 10 true := tyS Try.underlying33 (by kernel_rfl)
theorem fa35_3 : FA Try.prog 35 3 11 := fa_mk Try.underlying35 rfl rfl ts33
theorem fa49_0 : FA Try.prog 49 0 0 := fa_mk Try.underlying49 rfl rfl ts27
theorem fa49_1 : FA Try.prog 49 1 2 := fa_mk Try.underlying49 rfl rfl ts3
theorem fa49_2 : FA Try.prog 49 2 3 := fa_mk Try.underlying49 rfl rfl ts47
theorem fa51_0 : FA Try.prog 51 0 0 := fa_mk Try.underlying51 rfl rfl ts27
theorem fa51_1 : FA Try.prog 51 1 2 := fa_mk Try.underlying51 rfl rfl ts3
theorem fa55_0 : FA Try.prog 55 0 0 := fa_mk Try.underlying55 rfl rfl ts27
theorem fa55_1 : FA Try.prog 55 1 2 := fa_mk Try.underlying55 rfl rfl ts3
theorem fa55_2 : FA Try.prog 55 2 3 := fa_mk Try.underlying55 rfl rfl ts9
theorem ts49 : TyS Try.prog 49 4 true := tyS Try.underlying49 (by kernel_rfl)
theorem fa55_3 : FA Try.prog 55 3 4 := fa_mk Try.underlying55 rfl rfl ts49
theorem ts51 : TyS Try.prog 51 3 true := tyS Try.underlying51 (by kernel_rfl)
theorem fa55_4 : FA Try.prog 55 4 8 := fa_mk Try.underlying55 rfl rfl ts51
theorem ts52 : TyS Try.prog 52 1 false := tyS Try.underlying52 (by kernel_rfl)
theorem fa55_5 : FA Try.prog 55 5 11 := fa_mk Try.underlying55 rfl rfl ts52
theorem ts53 : TyS Try.prog 53 1 false := tyS Try.underlying53 (by kernel_rfl)
theorem fa55_6 : FA Try.prog 55 6 12 := fa_mk Try.underlying55 rfl rfl ts53
theorem fa57_0 : FA Try.prog 57 0 0 := fa_mk Try.underlying57 rfl rfl ts27
theorem fa57_1 : FA Try.prog 57 1 2 := fa_mk Try.underlying57 rfl rfl ts27
theorem fa57_2 : FA Try.prog 57 2 4 := fa_mk Try.underlying57 rfl rfl ts27
theorem fa57_3 : FA Try.prog 57 3 6 := fa_mk Try.underlying57 rfl rfl ts27
theorem fa57_4 : FA Try.prog 57 4 8 := fa_mk Try.underlying57 rfl rfl ts9
theorem fa57_5 : FA Try.prog 57 5 9 := fa_mk Try.underlying57 rfl rfl ts29
theorem fa57_6 : FA Try.prog 57 6 17 := fa_mk Try.underlying57 rfl rfl ts29
theorem fa60_0 : FA Try.prog 60 0 0 := fa_mk Try.underlying60 rfl rfl ts3
theorem fa60_1 : FA Try.prog 60 1 1 := fa_mk Try.underlying60 rfl rfl ts27
theorem fa60_2 : FA Try.prog 60 2 3 := fa_mk Try.underlying60 rfl rfl ts9
theorem fa62_0 : FA Try.prog 62 0 0 := fa_mk Try.underlying62 rfl rfl ts9
theorem fa62_1 : FA Try.prog 62 1 1 := fa_mk Try.underlying62 rfl rfl ts27
theorem fa62_2 : FA Try.prog 62 2 3 := fa_mk Try.underlying62 rfl rfl ts9
theorem fa62_3 : FA Try.prog 62 3 4 := fa_mk Try.underlying62 rfl rfl ts4
theorem ti35 : TyI Try.prog 35 200 := tyI (by kernel_rfl)
theorem ti55 : TyI Try.prog 55 144 := tyI (by kernel_rfl)
theorem ti57 : TyI Try.prog 57 208 := tyI (by kernel_rfl)
theorem ti60 : TyI Try.prog 60 40 := tyI (by kernel_rfl)
theorem ti62 : TyI Try.prog 62 56 := tyI (by kernel_rfl)
theorem tz27 : TyZ Try.prog 27 (S_api_Stamp.enc (S_api_Stamp.mk 0 0)) := tyZ (by kernel_rfl)
theorem pl27 : BL Try.prog 27 (S_api_Stamp.cells (S_api_Stamp.mk 0 0)) [(0, 1), (1, 1)] := ⟨_, _, tz27, rfl, Try.underlying27, (places_cons ts3 (places_cons ts3 places_nil))⟩
theorem tz33 : TyZ Try.prog 33 (S_api_State.enc (S_api_State.mk (A8.mk 0 0 0 0 0 0 0 0) Sl.nil Sl.nil)) := tyZ (by kernel_rfl)
theorem pl33 : BL Try.prog 33 (S_api_State.cells (S_api_State.mk (A8.mk 0 0 0 0 0 0 0 0) Sl.nil Sl.nil)) [(0, 8), (8, 1), (9, 1)] := ⟨_, _, tz33, rfl, Try.underlying33, (places_cons ts29 (places_cons ts30 (places_cons ts31 places_nil)))⟩
theorem tz35 : TyZ Try.prog 35 (S_api_Event.enc (S_api_Event.mk (S_api_Stamp.mk 0 0) 0 (A8.mk 0 0 0 0 0 0 0 0) (S_api_State.mk (A8.mk 0 0 0 0 0 0 0 0) Sl.nil Sl.nil))) := tyZ (by kernel_rfl)
theorem pl35 : BL Try.prog 35 (S_api_Event.cells (S_api_Event.mk (S_api_Stamp.mk 0 0) 0 (A8.mk 0 0 0 0 0 0 0 0) (S_api_State.mk (A8.mk 0 0 0 0 0 0 0 0) Sl.nil Sl.nil))) [(0, 2), (2, 1), (3, 8), (11, 10)] := ⟨_, _, tz35, rfl, Try.underlying35, (places_cons ts27 (places_cons ts3 (places_cons ts29 (places_cons ts33 places_nil))))⟩
theorem tz49 : TyZ Try.prog 49 (S_api_Attr.enc (S_api_Attr.mk (S_api_Stamp.mk 0 0) 0 0)) := tyZ (by kernel_rfl)
theorem pl49 : BL Try.prog 49 (S_api_Attr.cells (S_api_Attr.mk (S_api_Stamp.mk 0 0) 0 0)) [(0, 2), (2, 1), (3, 1)] := ⟨_, _, tz49, rfl, Try.underlying49, (places_cons ts27 (places_cons ts3 (places_cons ts47 places_nil)))⟩
theorem tz55 : TyZ Try.prog 55 (S_api_Inode.enc (S_api_Inode.mk (S_api_Stamp.mk 0 0) 0 [] (S_api_Attr.mk (S_api_Stamp.mk 0 0) 0 0) (S_api_Size.mk (S_api_Stamp.mk 0 0) 0) Sl.nil Sl.nil)) := tyZ (by kernel_rfl)
theorem pl55 : BL Try.prog 55 (S_api_Inode.cells (S_api_Inode.mk (S_api_Stamp.mk 0 0) 0 [] (S_api_Attr.mk (S_api_Stamp.mk 0 0) 0 0) (S_api_Size.mk (S_api_Stamp.mk 0 0) 0) Sl.nil Sl.nil)) [(0, 2), (2, 1), (3, 1), (4, 4), (8, 3), (11, 1), (12, 1)] := ⟨_, _, tz55, rfl, Try.underlying55, (places_cons ts27 (places_cons ts3 (places_cons ts9 (places_cons ts49 (places_cons ts51 (places_cons ts52 (places_cons ts53 places_nil)))))))⟩
theorem ts22 : TyS Try.prog 22 1 false := tyS Try.underlying22 (by kernel_rfl)
theorem ts35 : TyS Try.prog 35 21 true := tyS Try.underlying35 (by kernel_rfl)
theorem ts55 : TyS Try.prog 55 13 true := tyS Try.underlying55 (by kernel_rfl)
theorem ts57 : TyS Try.prog 57 25 true := tyS Try.underlying57 (by kernel_rfl)
theorem ts60 : TyS Try.prog 60 4 true := tyS Try.underlying60 (by kernel_rfl)
theorem ts62 : TyS Try.prog 62 5 true := tyS Try.underlying62 (by kernel_rfl)
theorem tz22 : TyZ Try.prog 22 (Sl.enc Sl.nil) := tyZ (by kernel_rfl)
theorem tz3 : TyZ Try.prog 3 (.int .i64 0) := tyZ (by kernel_rfl)
theorem tz30 : TyZ Try.prog 30 (Sl.enc Sl.nil) := tyZ (by kernel_rfl)
theorem tz31 : TyZ Try.prog 31 (Sl.enc Sl.nil) := tyZ (by kernel_rfl)
theorem tz51 : TyZ Try.prog 51 (S_api_Size.enc (S_api_Size.mk (S_api_Stamp.mk 0 0) 0)) := tyZ (by kernel_rfl)
theorem tz52 : TyZ Try.prog 52 (Sl.enc Sl.nil) := tyZ (by kernel_rfl)
theorem tz53 : TyZ Try.prog 53 (Sl.enc Sl.nil) := tyZ (by kernel_rfl)
theorem tz57 : TyZ Try.prog 57 (S_api_Link.enc (S_api_Link.mk (S_api_Stamp.mk 0 0) (S_api_Stamp.mk 0 0) (S_api_Stamp.mk 0 0) (S_api_Stamp.mk 0 0) [] (A8.mk 0 0 0 0 0 0 0 0) (A8.mk 0 0 0 0 0 0 0 0))) := tyZ (by kernel_rfl)
theorem tz60 : TyZ Try.prog 60 (S_api_Piece.enc (S_api_Piece.mk 0 (S_api_Stamp.mk 0 0) [])) := tyZ (by kernel_rfl)
theorem tz62 : TyZ Try.prog 62 (S_api_Xattr.enc (S_api_Xattr.mk [] (S_api_Stamp.mk 0 0) [] false)) := tyZ (by kernel_rfl)
end Go.Proofs.L
namespace Go
namespace Lf
/-! ## how heaps stand to each other -/
/-- all but the blocks in W is as it was; new blocks may be there -/
structure Ag (W : List Nat) (h h' : Hp) : Prop where
  size : h.size ≤ h'.size
  same : ∀ i, i < h.size → i ∉ W → h'[i]? = h[i]?
abbrev Ext (h h' : Hp) : Prop := Ag [] h h'
theorem Ag.refl {W : List Nat} {h : Hp} : Ag W h h := ⟨Nat.le_refl _, fun _ _ _ => rfl⟩
theorem Ag.trans {W : List Nat} {a b c : Hp} (x : Ag W a b) (y : Ag W b c) : Ag W a c :=
  ⟨Nat.le_trans x.size y.size, fun i hi hw => by rw [y.same i (Nat.lt_of_lt_of_le hi x.size) hw, x.same i hi hw]⟩
theorem Ag.weak {W W' : List Nat} {a b : Hp} (x : Ag W a b) (hs : ∀ i ∈ W, i ∈ W') : Ag W' a b := ⟨x.size, fun i hi hw => x.same i hi fun h => hw (hs i h)⟩
theorem Ag.of {W : List Nat} {a b : Hp} (x : Ext a b) : Ag W a b := x.weak fun _ h => by cases h
/-- what changes lies behind the first heap -/
theorem Ag.over {W : List Nat} {a b c : Hp} (x : Ext a b) (y : Ag W b c) (hw : ∀ i ∈ W, a.size ≤ i) : Ext a c :=
  ⟨Nat.le_trans x.size y.size, fun i hi _ => by
    rw [y.same i (Nat.lt_of_lt_of_le hi x.size) (fun h => by have := hw i h; omega), x.same i hi (by simp)]⟩
theorem Ag.push {W : List Nat} {h : Hp} {o : Obj} : Ag W h (h.push o) := ⟨by simp, fun i hi _ => by rw [Array.getElem?_push, if_neg (by omega)]⟩
theorem Ag.set {h : Hp} {b : Nat} {o : Obj} : Ag [b] h (h.setIfInBounds b o) :=
  ⟨by simp, fun i _ hw => by rw [Array.getElem?_setIfInBounds_ne (by simpa [eq_comm] using hw)]⟩
theorem cell_lt {h : Hp} {a : Addr} {v : Value} (hc : Hp.cell? h a = some v) : a.block < h.size := by
  unfold Hp.cell? at hc
  split at hc
  · rename_i e; exact (Array.getElem?_eq_some_iff.1 e).1
  · cases hc
theorem cell_ag {W : List Nat} {h h' : Hp} {a : Addr} {v : Value} (hc : Hp.cell? h a = some v) (x : Ag W h h') (hw : a.block ∉ W) : Hp.cell? h' a = some v := by
  have := x.same _ (cell_lt hc) hw
  unfold Hp.cell? at *
  rw [this]; exact hc
theorem row_ag {W : List Nat} {h h' : Hp} {a : Addr} {cs : List Value} (hc : Row h a cs) (x : Ag W h h') (hw : a.block ∉ W) : Row h' a cs :=
  fun i v hi => cell_ag (hc i v hi) x (by rw [add_block]; exact hw)

/-! ## a function's own frame: h0 where it began, bs its boxes, hA since when nothing older has changed -/
structure Fr (h0 : Hp) (bs : List Addr) (hA h : Hp) : Prop where
  e0 : Ext h0 h
  b0 : ∀ b ∈ bs, h0.size ≤ b.block ∧ b.block < h.size
  eA : Ext hA h
variable {h0 hA h h' : Hp} {bs bs' : List Addr}
theorem Fr.start : Fr h [] h h := ⟨.refl, fun _ h => (by cases h), .refl⟩
theorem Fr.ext (f : Fr h0 bs hA h) (e : Ext h h') : Fr h0 bs hA h' := ⟨f.e0.trans e, fun b hb => ⟨(f.b0 b hb).1, Nat.lt_of_lt_of_le (f.b0 b hb).2 e.size⟩, f.eA.trans e⟩
theorem Fr.base (f : Fr h0 bs hA h) : Fr h0 bs h h := ⟨f.e0, f.b0, .refl⟩
theorem Fr.drop (f : Fr h0 bs hA h) (hs : ∀ b ∈ bs', b ∈ bs) : Fr h0 bs' hA h := ⟨f.e0, fun b hb => f.b0 b (hs b hb), f.eA⟩
theorem Fr.ag {W : List Nat} (f : Fr h0 bs hA h) (x : Ag W h h') (hw : ∀ i ∈ W, h0.size ≤ i) : Fr h0 bs h' h' :=
  ⟨f.e0.over x hw, fun b hb => ⟨(f.b0 b hb).1, Nat.lt_of_lt_of_le (f.b0 b hb).2 x.size⟩, .refl⟩
theorem al_ {K : Addr → Hp → Prop} (f : Fr h0 bs hA h) (k : ∀ b h', Fr h0 (b :: bs) hA h' → Ext h h' → hA.size ≤ b.block → b.block = h.size → K b h') : AlX h K := fun o => by
  have e : Ext h (h.push o) := .push
  refine k _ _ ⟨f.e0.trans e, ?_, f.eA.trans e⟩ e f.eA.size rfl
  intro b hb
  rcases List.mem_cons.1 hb with rfl | hb
  · exact ⟨f.e0.size, by simp⟩
  · exact ⟨(f.b0 b hb).1, Nat.lt_of_lt_of_le (f.b0 b hb).2 e.size⟩
theorem alv_ {cs : List Value} {K : Addr → Hp → Prop} (f : Fr h0 bs hA h) (k : ∀ b h', Fr h0 bs hA h' → Ext h h' → Row h' b cs → b.block = h.size → K b h') : Al h cs K := fun T => by
  have e : Ext h (h.push (.cells cs.toArray T)) := .push
  refine k _ _ (f.ext e) e ?_ rfl
  intro i v hi
  rw [add_flat rfl rfl]
  simpa [Hp.cell?] using hi
theorem st_ {b : Addr} {K : Hp → Prop} (f : Fr h0 bs hA h) (hb : b ∈ bs) (hl : hA.size ≤ b.block) (k : ∀ h', Fr h0 bs hA h' → Ag [b.block] h h' → K h') : StX h b K := fun o => by
  have x : Ag [b.block] h (h.setIfInBounds b.block o) := .set
  refine k _ ⟨f.e0.over x (by simpa using (f.b0 b hb).1), fun c hc => by simpa using f.b0 c hc, f.eA.over x (by simpa using hl)⟩ x
theorem st0_ {b : Addr} {K : Hp → Prop} (f : Fr h0 bs hA h) (hb : b ∈ bs) (k : ∀ h', Fr h0 bs h' h' → Ag [b.block] h h' → K h') : StX h b K := fun o => by
  have x : Ag [b.block] h (h.setIfInBounds b.block o) := .set
  exact k _ (f.ag x (by simpa using (f.b0 b hb).1)) x
theorem kp_ {P : Prop} (f : Fr h0 bs hA h) (e : Ext h h') (hs : ∀ b ∈ bs', b ∈ bs) (k : Fr h0 bs hA h' → P) : KpX h h' bs' P :=
  ⟨fun b hb => e.same _ (f.b0 b (hs b hb)).2 (by simp), k (f.ext e)⟩
theorem kpa_ {W : List Nat} {P : Prop} (f : Fr h0 bs hA h) (x : Ag W h h') (hs : ∀ b ∈ bs', b ∈ bs) (hw : ∀ b ∈ bs', b.block ∉ W) (k : P) : KpX h h' bs' P :=
  ⟨fun b hb => x.same _ (f.b0 b (hs b hb)).2 (hw b hb), k⟩
theorem if_ {b : Bool} {A B : Prop} (hA : b = true → A) (hB : b = false → B) : If b A B := by
  cases b
  · exact ⟨fun h => (by cases h), fun _ => hB rfl⟩
  · exact ⟨fun _ => hA rfl, fun h => (by cases h)⟩
/-- a join: what holds there -/
theorem j_ {α : Type} {K : α → Hp → Prop} {B : (α → Hp → Prop) → Prop} (hB : B K) : J K B := ⟨K, fun _ _ h => h, hB⟩
theorem loop_ {σ : Type} {s0 : σ} {body : σ → Hp → (σ → Hp → Prop) → Prop} (I : Nat → σ → Hp → Prop) (m : Nat) (h1 : I m s0 h) (h2 : ∀ m s h, I m s h → body s h (fun s' h' => ∃ m', m' < m ∧ I m' s' h')) : LoopF s0 h body := ⟨I, m, h1, h2⟩
theorem wi {i : Int} (h0 : -2 ^ 63 ≤ i) (h1 : i < 2 ^ 63) : IntKind.wrap .i64 i = i := wrap_id h0 h1

/-! ## rows of elements -/
structure Elt (S : Type) where
  cells : S → List Value
  sz : Nat
  len : ∀ x, (cells x).length = sz
  ones : ∀ x, (cells x).all one = true
def Sl.blk (s : Sl) : List Nat := match s.a with
  | some a => [a.block]
  | none => []
variable {S : Type} {e : Elt S} {s s' : Sl} {l : List S}
/-- what a slice reads as; its blocks meet A -/
def Rows (A : Nat → Prop) (e : Elt S) (h : Hp) (s : Sl) (l : List S) : Prop :=
  s.len = l.length ∧ ∀ i x, l[i]? = some x → ∃ a, s.a = some a ∧ A a.block ∧ Row h (a.add (i * e.sz)) (e.cells x)
theorem Rows.nil {A : Nat → Prop} : Rows A e h Sl.nil [] := ⟨rfl, fun i x hi => by simp at hi⟩
theorem Rows.ag {A : Nat → Prop} {W : List Nat} (r : Rows A e h s l) (x : Ag W h h') (hw : ∀ i ∈ W, ¬ A i) : Rows A e h' s l :=
  ⟨r.1, fun i y hi => by
    obtain ⟨a, h1, h2, h3⟩ := r.2 i y hi
    exact ⟨a, h1, h2, row_ag h3 x (by rw [add_block]; exact fun h => hw _ h h2)⟩⟩
theorem Rows.ext {A : Nat → Prop} (r : Rows A e h s l) (x : Ext h h') : Rows A e h' s l := r.ag x fun _ h => by cases h
theorem Rows.weak {A B : Nat → Prop} (r : Rows A e h s l) (hw : ∀ i, A i → B i) : Rows B e h s l :=
  ⟨r.1, fun i y hi => by
    obtain ⟨a, h1, h2, h3⟩ := r.2 i y hi
    exact ⟨a, h1, hw _ h2, h3⟩⟩
/-- an element of a slice, loaded -/
theorem ixlda {A : Nat → Prop} {i : Int} {K : Addr → S → Prop} (r : Rows A e h s l) {n : Nat} (hi : i = (n : Int)) {x : S} (hx : l[n]? = some x) (k : ∀ p, A p.block → Row h p (e.cells x) → K p x) :
    Ix s i e.sz fun p => LdA e.cells h p fun v => K p v := by
  obtain ⟨a, h1, h2, h3⟩ := r.2 n x hx
  have hl : n < l.length := (List.getElem?_eq_some_iff.1 hx).1
  subst hi
  refine ⟨a, h1, by omega, by rw [r.1]; omega, x, by simpa using h3, k _ (by rw [add_block]; exact h2) (by simpa using h3)⟩
theorem ix_ {A : Nat → Prop} {i : Int} {K : Addr → Prop} (r : Rows A e h s l) {n : Nat} (hi : i = (n : Int)) {x : S} (hx : l[n]? = some x) (k : ∀ p, A p.block → Row h p (e.cells x) → K p) :
    Ix s i e.sz K := by
  obtain ⟨a, h1, h2, h3⟩ := r.2 n x hx
  have hl : n < l.length := (List.getElem?_eq_some_iff.1 hx).1
  subst hi
  exact ⟨a, h1, by omega, by rw [r.1]; omega, k _ (by rw [add_block]; exact h2) (by simpa using h3)⟩
theorem lda_ {x : S} {p : Addr} {K : S → Prop} (r : Row h p (e.cells x)) (k : K x) : LdA e.cells h p K := ⟨x, r, k⟩

/-! ## a slice of one's own, that grows -/
structure Own (e : Elt S) (h : Hp) (s : Sl) (l : List S) : Prop where
  len : s.len = l.length
  arr : (s.a = none ∧ l = [] ∧ s.cap = 0) ∨ ∃ b T rest, s.a = some ⟨b, 0, none⟩ ∧ h[b]? = some (.cells ((l.map e.cells).flatten ++ rest).toArray T) ∧ rest.length = (s.cap - s.len) * e.sz ∧ s.len ≤ s.cap
theorem Own.nil : Own e h Sl.nil [] := ⟨rfl, .inl ⟨rfl, rfl, rfl⟩⟩
theorem Own.ag {W : List Nat} (o : Own e h s l) (x : Ag W h h') (hw : ∀ i ∈ W, i ∉ s.blk) : Own e h' s l :=
  ⟨o.len, o.arr.imp id fun ⟨b, T, rest, h1, h2, h3⟩ => ⟨b, T, rest, h1, by
    rw [x.same b (Array.getElem?_eq_some_iff.1 h2).1 (fun hb => hw b hb (by simp [Sl.blk, h1])), h2], h3⟩⟩
theorem Own.ext (o : Own e h s l) (x : Ext h h') : Own e h' s l := o.ag x fun _ h => by cases h
theorem Own.lt (o : Own e h s l) : ∀ i ∈ s.blk, i < h.size := by
  intro i hi
  rcases o.arr with ⟨h1, _⟩ | ⟨b, T, rest, h1, h2, _⟩
  · simp [Sl.blk, h1] at hi
  · simp [Sl.blk, h1] at hi
    subst hi
    exact (Array.getElem?_eq_some_iff.1 h2).1
theorem flatten_len {l : List S} : ((l.map e.cells).flatten).length = l.length * e.sz := by
  induction l with
  | nil => simp
  | cons x l ih => simp [ih, e.len, Nat.add_mul, Nat.add_comm]
theorem flatten_get {l : List S} {i j : Nat} {x : S} {v : Value} (hx : l[i]? = some x) (hv : (e.cells x)[j]? = some v) : ((l.map e.cells).flatten)[i * e.sz + j]? = some v := by
  induction l generalizing i with
  | nil => simp at hx
  | cons y l ih =>
    have hj : j < e.sz := by rw [← e.len x]; exact (List.getElem?_eq_some_iff.1 hv).1
    cases i with
    | zero =>
      simp only [List.getElem?_cons_zero, Option.some.injEq] at hx
      subst hx
      simp only [List.map_cons, List.flatten_cons, Nat.zero_mul, Nat.zero_add]
      rw [List.getElem?_append_left (by rw [e.len]; exact hj)]
      exact hv
    | succ i =>
      simp only [List.getElem?_cons_succ] at hx
      simp only [List.map_cons, List.flatten_cons]
      rw [List.getElem?_append_right (by rw [e.len, Nat.add_mul]; omega), e.len]
      rw [show (i + 1) * e.sz + j - e.sz = i * e.sz + j by rw [Nat.add_mul]; omega]
      exact ih hx
theorem flat_add (b o i : Nat) : (⟨b, o, none⟩ : Addr).add i = ⟨b, o + i, none⟩ := by
  simp [Addr.add]
  try omega
  try exact fun e => e.symm
theorem Own.rows (o : Own e h s l) : Rows (· ∈ s.blk) e h s l := by
  refine ⟨o.len, fun i x hi => ?_⟩
  rcases o.arr with ⟨_, h1, _⟩ | ⟨b, T, rest, h1, h2, h3, h4⟩
  · simp [h1] at hi
  · refine ⟨_, h1, by simp [Sl.blk, h1], fun j v hj => ?_⟩
    rw [flat_add, flat_add]
    have := flatten_get hi hj
    simp only [Hp.cell?, h2, Option.isSome_none, Bool.false_eq_true, if_false, Nat.zero_add, List.getElem?_toArray]
    rw [List.getElem?_append_left]
    · exact this
    · exact (List.getElem?_eq_some_iff.1 this).1
end Lf
end Go
namespace Go
namespace Lf
theorem growBy_le (need : Nat) : ∀ (d c : Nat), c ≤ 2 * need + 192 → Builtin.growBy need d c ≤ 2 * need + 192
  | 0, c, h => h
  | d + 1, c, h => by
    unfold Builtin.growBy
    split
    · exact h
    · exact growBy_le need d _ (by omega)
theorem ncap_le {need cap : Nat} (h : cap < need) : Builtin.nextslicecap need cap ≤ 2 * need + 192 := by
  unfold Builtin.nextslicecap
  split
  · omega
  · split
    · omega
    · exact growBy_le _ _ _ (by omega)
variable {h0 hA h h' : Hp} {bs bs' : List Addr} {S : Type} {e : Elt S} {s s' src : Sl} {l xs : List S}
theorem ones_all {l : List S} : ∀ v ∈ (l.map e.cells).flatten, one v = true := by
  intro v hv
  obtain ⟨c, hc, hv⟩ := List.mem_flatten.1 hv
  obtain ⟨x, _, rfl⟩ := List.mem_map.1 hc
  exact List.all_eq_true.1 (e.ones x) v hv
theorem rows_cs {A : Nat → Prop} (r : Rows A e h s l) : Cs h s.a (s.len * e.sz) (l.map e.cells).flatten := by
  refine ⟨by rw [flatten_len, r.1], ?_⟩
  cases ha : s.a with
  | none =>
    cases l with
    | nil => simp
    | cons x l => obtain ⟨a, h1, _⟩ := r.2 0 x rfl; rw [ha] at h1; cases h1
  | some a =>
    intro j v hj
    have hjl : j < l.length * e.sz := by rw [← flatten_len]; exact (List.getElem?_eq_some_iff.1 hj).1
    have hsz : 0 < e.sz := by
      rcases Nat.eq_zero_or_pos e.sz with h | h
      · rw [h] at hjl; simp at hjl
      · exact h
    have hq : j / e.sz < l.length := by rw [Nat.div_lt_iff_lt_mul hsz]; exact hjl
    have hm : j % e.sz < e.sz := Nat.mod_lt _ hsz
    have he : j / e.sz * e.sz + j % e.sz = j := by rw [Nat.mul_comm]; exact Nat.div_add_mod j e.sz
    have hx : l[j / e.sz]? = some l[j / e.sz] := by simp [hq]
    have hv : (e.cells l[j / e.sz])[j % e.sz]? = some ((e.cells l[j / e.sz])[j % e.sz]'(by rw [e.len]; exact hm)) := by simp [e.len, hm]
    have := flatten_get hx hv
    rw [he, hj] at this
    obtain ⟨a', h1, _, h3⟩ := r.2 _ _ hx
    rw [ha] at h1; cases h1
    have := h3 _ _ hv
    rw [add_add, he] at this
    rw [this]; simp_all
/-- what an append leaves: only its own block, if any, is touched -/
theorem apps_ {A : Nat → Prop} {by' : Nat} {K : Sl → Hp → Prop} (o : Own e h s l) (r : Rows A e h src xs) (hb : (2 * (l.length + xs.length) + 192) * by' ≤ 2 ^ 48) (hl : l.length + xs.length < 2 ^ 62)
    (k : ∀ s' h', Ag s.blk h h' → Own e h' s' (l ++ xs) → (∀ i ∈ s'.blk, i ∈ s.blk ∨ h.size ≤ i) → K s' h') : AppS h s src e.sz by' K := by
  refine ⟨(xs.map e.cells).flatten, rows_cs r, ones_all, ?_⟩
  have hlen := o.len
  have hxs := r.1
  refine ⟨fun hfit => ?_, fun hgrow => ?_⟩
  · rcases o.arr with ⟨h1, h2, h3⟩ | ⟨b, T, rest, h1, h2, h3, h4⟩
    · rw [h1]
      simp only
      subst h2
      have : xs = [] := by
        rw [h3] at hfit
        have : xs.length = 0 := by omega
        simpa using this
      subst this
      refine k _ _ .refl ⟨by simp [hxs, hlen], .inl ⟨rfl, rfl, h3⟩⟩ (by simp [Sl.blk])
    · rw [h1]
      simp only
      have hlt := (Array.getElem?_eq_some_iff.1 h2).1
      have hfl : (l.map e.cells).flatten.length = s.len * e.sz := by rw [flatten_len, hlen]
      have hxl : (xs.map e.cells).flatten.length = src.len * e.sz := by rw [flatten_len, hxs]
      have hrl : src.len * e.sz ≤ rest.length := by rw [h3]; exact Nat.mul_le_mul_right _ (by omega)
      have hfr : ∀ j, Hp.frozen? h ((⟨b, 0, none⟩ : Addr).add j) = false := fun j => by rw [flat_add]; simp [Hp.frozen?, h2]
      refine ⟨fun j hj => ⟨?_, by rw [add_add]; exact hfr _⟩, ?_⟩
      · rw [add_add, flat_add, Nat.zero_add]
        rw [hxl] at hj
        refine ⟨((l.map e.cells).flatten ++ rest)[s.len * e.sz + j]'(by rw [List.length_append, hfl]; omega), ?_⟩
        simp [Hp.cell?, h2]
      · have hput : put ((l.map e.cells).flatten ++ rest) (s.len * e.sz) (xs.map e.cells).flatten = ((l ++ xs).map e.cells).flatten ++ rest.drop (src.len * e.sz) := by
          have := put_mid (xs.map e.cells).flatten (l.map e.cells).flatten (rest.take (src.len * e.sz)) (rest.drop (src.len * e.sz)) (by rw [List.length_take, hxl]; omega)
          rw [List.take_append_drop, hfl] at this
          rw [this]
          simp
        have hset := setCells_has (b := ⟨b, 0, none⟩) (T := T) rfl rfl (xs.map e.cells).flatten h ((l.map e.cells).flatten ++ rest) (s.len * e.sz) 0 h2
        rw [hset, Nat.add_zero, hput]
        refine k _ _ ?_ ⟨by simp [hlen, hxs], .inr ⟨b, T, rest.drop (src.len * e.sz), rfl, by simp [hlt], ?_, hfit⟩⟩ (by simp [Sl.blk, h1])
        · have : Ag [b] h (h.setIfInBounds b (.cells (((l ++ xs).map e.cells).flatten ++ rest.drop (src.len * e.sz)).toArray T)) := .set
          exact this.weak (by simp [Sl.blk, h1])
        · rw [List.length_drop, h3]
          simp only
          rw [← Nat.sub_mul]
          congr 1
          omega
  · have hn := ncap_le hgrow
    refine ⟨Nat.le_trans (Nat.mul_le_mul_right _ hn) (by rw [hlen, hxs]; exact hb), by omega, (l.map e.cells).flatten, ?_, ?_⟩
    · exact rows_cs o.rows
    · intro T newCap rest hc hr
      refine k _ _ .push ⟨by simp [hlen, hxs], .inr ⟨h.size, T, rest, rfl, by simp, hr, hc⟩⟩ (by simp [Sl.blk])
theorem rows1 {p : Addr} {x : S} (r : Row h p (e.cells x)) : Rows (· = p.block) e h (Sl.mk (some p) 1 1) [x] :=
  ⟨rfl, fun i y hi => by
    cases i with
    | zero => simp at hi; subst hi; exact ⟨p, rfl, rfl, by rw [Nat.zero_mul]; exact r⟩
    | succ i => simp at hi⟩
theorem app1_ {by' : Nat} {p : Addr} {x : S} {K : Sl → Hp → Prop} (o : Own e h s l) (r : Row h p (e.cells x)) (hb : (2 * (l.length + 1) + 192) * by' ≤ 2 ^ 48) (hl : l.length + 1 < 2 ^ 62)
    (k : ∀ s' h', Ag s.blk h h' → Own e h' s' (l ++ [x]) → (∀ i ∈ s'.blk, i ∈ s.blk ∨ h.size ≤ i) → K s' h') : AppS h s (Sl.mk (some p) 1 1) e.sz by' K :=
  apps_ o (rows1 r) hb hl k
end Lf
end Go
namespace Go
namespace Lf
open Go.ChangeShapes Go.WideShapes Go.ChangeAt Go.RowKit Go.WideElems
/-! ## from a walk to a row: what came in reads as it did -/
theorem same_ext {W W' : World} (hx : Ext W.heap W'.heap) {p : MemPlace} (hp : p.block < W.heap.size) : W.sameAt W' p := by
  cases p with
  | cell b off =>
    have : W'.heap[b]? = W.heap[b]? := hx.same b hp (by simp)
    simp only [World.sameAt, World.cell?, this]
  | map b => exact hx.same b hp (by simp)
theorem kept_ext {W W' : World} (hx : Ext W.heap W'.heap) (ho : W'.os = W.os) (hp : W'.output = W.output) (may : MemPlace → Prop) : W.keptBut W' may := by
  refine ⟨ho, hp, fun i hi => ?_⟩
  have h := hx.same i hi (by simp)
  rw [h]
  cases W.heap[i]? with
  | none => trivial
  | some o => cases o <;> simp
theorem trodAll_stays {P : Program} {H : Type} {enc : TypeId × Value → H} (hl : laidOutB P = true) {W W' : World} (hx : Ext W.heap W'.heap) {sp' : Nat → Bool} : ∀ {ts : List TypeId} {vs : List Value} {ds : List (DataW H)} {ps : List MemPlace}, (∀ t ∈ ts, P.readableRec t = true ∧ t < P.types.size) →
    DataW.TrodAll enc P W 0 (fun _ => true) true ts vs ds ps → (∀ p ∈ ps, p.block < W.heap.size) → (∀ p ∈ ps, sp' p.block = true) → DataW.TrodAll enc P W' 0 sp' true ts vs ds ps
  | [], [], [], ps, _, h, _, _ => h
  | t :: ts, v :: vs, d :: ds, ps, ht, h, hp, hs => by
    obtain ⟨p, q, h1, h2, rfl⟩ := h
    exact ⟨p, q, Trod_stays hl (ht t (by simp)).1 (ht t (by simp)).2 h1 (fun x hx' => same_ext hx (hp x (by simp [hx']))) fun x hx' => hs x (by simp [hx']),
      trodAll_stays hl hx (fun t h => ht t (by simp [h])) h2 (fun x hx' => hp x (by simp [hx'])) (fun x hx' => hs x (by simp [hx'])), rfl⟩
  | [], [], _ :: _, _, _, h, _, _ => by simp [DataW.TrodAll] at h
  | [], _ :: _, _, _, _, h, _, _ => by simp [DataW.TrodAll] at h
  | _ :: _, [], _, _, _, h, _, _ => by simp [DataW.TrodAll] at h
  | _ :: _, _ :: _, [], _, _, h, _, _ => by simp [DataW.TrodAll] at h
theorem post_law {P : Program} {H : Type} {enc : TypeId × Value → H} {f : Func} {s : ChangeSpec} {apart fresh handsOn : Bool} {W W' : World} {args : Array Value} {ds gs : List (DataW H)} {before : List MemPlace} {tb : TypeId}
    (hl : laidOutB P = true) (ht : ∀ t ∈ f.params.toList, P.readableRec t = true ∧ t < P.types.size) (hv : s.vars = []) (hW : DataW.Whole enc P f.params.toList s.vars apart W args.toList ds gs before)
    (hfn : s.fn H (ds ++ gs) = { results := [.lit (.bool true)], args := ds }) (hrt : f.resultTypes = #[tb]) (hb : P.underlying tb = some .bool)
    (hx : Ext W.heap W'.heap) (ho : W'.os = W.os) (hp : W'.output = W.output) : s.post enc P f apart fresh handsOn false W args (.bool true) W' := by
  have hlt := hW.lt
  obtain ⟨p, q, hA, hV, hps, hz, hn⟩ := id hW
  rw [hv] at hV
  obtain ⟨rfl, rfl⟩ := trodVars_none hV
  rw [List.append_nil] at hps
  subst hps
  refine ⟨ds, [], before, [], before, [], hW, ?_, ?_, ?_, kept_ext hx ho hp _, fun h => by cases h⟩
  · rw [hfn, hrt]
    exact trodAll_mk1 ⟨1, by simp [DataW.trod, hb, Value.cells]⟩
  · rw [hfn]
    exact trodAll_stays hl hx ht hA hlt fun x hx' => by simpa using hlt x hx'
  · rw [hfn, hv]; rfl
/-! ## reading what came in -/
def Rd (P : Program) (t : TypeId) {S : Type} (cells : S → List Value) (R : Hp → S → Prop) : Prop :=
  ∀ {H : Type} (enc : TypeId × Value → H) (w : World) (n : Nat) (cs : List Value) (y : DataW H × List MemPlace), DataW.trod enc P w 0 (fun _ => true) true n t cs = some y → ∃ x, cs = cells x ∧ R w.heap x
variable {P : Program} {t e : TypeId}
def wfI (k : IntKind) (n : Int) : Prop := (Lit.int k n).wf = true
theorem rd_int {k : IntKind} (ht : P.underlying t = some (.int k)) : Rd P t (fun n : Int => [.int k n]) (fun _ n => wfI k n) := fun enc w n cs y h => by
  obtain ⟨m, rfl, _, h2⟩ := DataW.trod_int ht h
  exact ⟨m, rfl, h2⟩
theorem rd_bool (ht : P.underlying t = some .bool) : Rd P t (fun b : Bool => [.bool b]) (fun _ _ => True) := fun enc w n cs y h => by
  obtain ⟨b, rfl, _⟩ := DataW.trod_bool ht h
  exact ⟨b, rfl, trivial⟩
theorem rd_str (ht : P.underlying t = some .string) : Rd P t (fun s : Str => [vS s]) (fun _ s => s.length ≤ maxLen) := fun enc w n cs y h => by
  obtain ⟨s, rfl, _, h2⟩ := DataW.trod_string ht h
  obtain ⟨⟨l⟩⟩ := s
  exact ⟨l, rfl, h2⟩
def RdSl {S : Type} (El : Elt S) (R : Hp → S → Prop) (h : Hp) (s : Sl) : Prop := s.cap ≤ maxLen ∧ s.len ≤ s.cap ∧ ∃ l, Rows (· < h.size) El h s l ∧ ∀ x ∈ l, R h x
theorem cells_row {w : World} {a : Addr} {n : Nat} {cs : List Value} (h : w.cells? 0 a n = some cs) : cs.length = n ∧ Row w.heap a cs := by
  simp only [World.cells?, Nat.zero_le, if_true] at h
  have hl := mapM_some_length h
  refine ⟨by simpa using hl, fun i v hi => ?_⟩
  have hin : i < n := by rw [List.length_range] at hl; rw [← hl]; exact (List.getElem?_eq_some_iff.1 hi).1
  have := mapM_some_get h i i (by simp [hin])
  rw [hi] at this
  exact this
theorem rd_slice {S : Type} {El : Elt S} {R : Hp → S → Prop} (ht : P.underlying t = some (.slice e)) (hr : Rd P e El.cells R) (hc : P.cellsOf e = El.sz) (hpos : 0 < El.sz) : Rd P t (fun s : Sl => [Sl.enc s]) (RdSl El R) := fun enc w n cs y h => by
  rcases DataW.trod_slice ht h with ⟨rfl, _⟩ | ⟨a, len, cap, elems, rest, m, _, rfl, _, _, h1, h2, h3, h4, _, _⟩
  · exact ⟨Sl.nil, rfl, by simp [Sl.nil, maxLen], Nat.le_refl _, [], Rows.nil, by simp⟩
  · have key : ∀ i, i < len → ∃ x, Row w.heap (a.add (i * El.sz)) (El.cells x) ∧ R w.heap x := fun i hi => by
      have h5 := h4 i hi
      have hi' : i < elems.length := by omega
      rw [List.getElem?_eq_getElem hi', Option.bind_eq_some_iff] at h5
      obtain ⟨ds, h6, h7⟩ := h5
      rw [hc] at h6
      obtain ⟨_, hr6⟩ := cells_row h6
      obtain ⟨x, rfl, hx⟩ := hr enc w m ds _ h7
      exact ⟨x, hr6, hx⟩
    have list : ∀ n, n ≤ len → ∃ l : List S, l.length = n ∧ ∀ i x, l[i]? = some x → Row w.heap (a.add (i * El.sz)) (El.cells x) ∧ R w.heap x := by
      intro n
      induction n with
      | zero => exact fun _ => ⟨[], rfl, by simp⟩
      | succ n ih =>
        intro hn
        obtain ⟨l, hl, hr⟩ := ih (by omega)
        obtain ⟨x, hx⟩ := key n (by omega)
        refine ⟨l ++ [x], by simp [hl], fun i y hi => ?_⟩
        rcases Nat.lt_or_ge i n with hlt | hge
        · exact hr i y (by rwa [List.getElem?_append_left (by omega)] at hi)
        · rw [List.getElem?_append_right (by omega)] at hi
          have : i = n := by
            have := (List.getElem?_eq_some_iff.1 hi).1
            simp at this; omega
          subst this
          simp [hl] at hi
          subst hi
          exact hx
    obtain ⟨l, hl, hr⟩ := list len (Nat.le_refl _)
    refine ⟨Sl.mk (some a) len cap, rfl, h2, h1, l, ⟨hl.symm, fun i x hi => ⟨a, rfl, ?_, (hr i x hi).1⟩⟩, fun x hx => ?_⟩
    · have := (hr i x hi).1
      have hlen := El.len x
      have : (El.cells x)[0]? = some ((El.cells x)[0]'(by omega)) := by simp
      have := cell_lt ((hr i x hi).1 0 _ this)
      simpa [add_block] using this
    · obtain ⟨i, hi⟩ := List.mem_iff_getElem?.1 hx
      exact (hr i x hi).2
theorem rd_struct {S : Type} {cells : S → List Value} {R : Hp → S → Prop} {fs : Array Field} {N : Nat} (ht : P.underlying t = some (.struct fs)) (hN : P.cellsOf t = N)
    (mk : ∀ {H : Type} (enc : TypeId × Value → H) (w : World) (cs : List Value), cs.length = N → (∀ (i : Nat) (f : Field), fs[i]? = some f → ∃ n y, DataW.trod enc P w 0 (fun _ => true) true n f.type ((cs.drop f.offset).take (P.cellsOf f.type)) = some y) → ∃ x, cs = cells x ∧ R w.heap x) : Rd P t cells R := fun enc w n cs y h => by
  obtain ⟨xs, m, _, _, h1, h2, h3⟩ := DataW.trod_struct ht h
  refine mk enc w cs (by rw [h1, hN]) fun i f hf => ⟨m, ?_⟩
  have := h3 i f hf
  have hi : i < xs.length := by rw [h2]; exact (Array.getElem?_eq_some_iff.1 hf).1
  rw [List.getElem?_eq_getElem hi] at this
  exact ⟨_, this⟩
theorem rd_A8 {k : IntKind} (ht : P.underlying t = some (.array 8 e)) (he : P.underlying e = some (.int k)) (hc : P.cellsOf e = 1) (hN : P.cellsOf t = 8) : Rd P t (A8.cells k) (fun _ x => wfI k x.a0 ∧ wfI k x.a1 ∧ wfI k x.a2 ∧ wfI k x.a3 ∧ wfI k x.a4 ∧ wfI k x.a5 ∧ wfI k x.a6 ∧ wfI k x.a7) := fun enc w n cs y h => by
  obtain ⟨xs, m, _, _, h1, h2, h3⟩ := DataW.trod_array ht h
  rw [hN] at h1
  rw [hc] at h3
  match cs, h1 with
  | [c0, c1, c2, c3, c4, c5, c6, c7], _ =>
    have key : ∀ i c, i < 8 → [c0, c1, c2, c3, c4, c5, c6, c7].drop (i * 1) = c :: ([c0, c1, c2, c3, c4, c5, c6, c7].drop (i + 1)) → ∃ n, c = .int k n ∧ wfI k n := fun i c hi hd => by
      have h4 := h3 i hi
      have hi' : i < xs.length := by omega
      rw [hd, List.getElem?_eq_getElem hi'] at h4
      obtain ⟨n, h5, _, h6⟩ := DataW.trod_int he h4
      simp at h5
      exact ⟨n, h5, h6⟩
    obtain ⟨n0, rfl, w0⟩ := key 0 c0 (by omega) rfl
    obtain ⟨n1, rfl, w1⟩ := key 1 c1 (by omega) rfl
    obtain ⟨n2, rfl, w2⟩ := key 2 c2 (by omega) rfl
    obtain ⟨n3, rfl, w3⟩ := key 3 c3 (by omega) rfl
    obtain ⟨n4, rfl, w4⟩ := key 4 c4 (by omega) rfl
    obtain ⟨n5, rfl, w5⟩ := key 5 c5 (by omega) rfl
    obtain ⟨n6, rfl, w6⟩ := key 6 c6 (by omega) rfl
    obtain ⟨n7, rfl, w7⟩ := key 7 c7 (by omega) rfl
    exact ⟨⟨n0, n1, n2, n3, n4, n5, n6, n7⟩, rfl, w0, w1, w2, w3, w4, w5, w6, w7⟩
theorem lc {cs : List Value} {n : Nat} (h : cs.length = n + 1) : ∃ c cs', cs = c :: cs' ∧ cs'.length = n := by
  cases cs with
  | nil => simp at h
  | cons c cs => exact ⟨c, cs, rfl, by simpa using h⟩
/-- an argument, read -/
theorem rd_arg {S : Type} {cells : S → List Value} {R : Hp → S → Prop} (r : Rd P t cells R) {H : Type} {enc : TypeId × Value → H} {w : World} {v : Value} {d : DataW H} {ps : List MemPlace} (h : DataW.Trod enc P w 0 (fun _ => true) true t v d ps) : ∃ x, v.cells.toList = cells x ∧ R w.heap x := by
  obtain ⟨n, hn⟩ := h
  exact r enc w n _ _ hn
end Lf
end Go
namespace Go
namespace Lf
variable {P : Program} {t e : TypeId}
theorem arg_sl {S : Type} {El : Elt S} {R : Hp → S → Prop} {r : Reach} {b0 : Nat} {H : Type} {enc : TypeId × Value → H} {w : World} {v : Value} {d : DataW H} {ps : List MemPlace} (ht : P.underlying t = some (.slice e)) (hr : Rd P t (fun s : Sl => [Sl.enc s]) (RdSl El R)) (hv : Value.okWide P w r b0 t v)
    (h : DataW.Trod enc P w 0 (fun _ => true) true t v d ps) : ∃ s : Sl, v = s.enc ∧ RdSl El R w.heap s := by
  obtain ⟨s, h1, h2⟩ := rd_arg hr h
  refine ⟨s, ?_, h2⟩
  have hna : ∀ cs, v ≠ .agg cs := by
    rintro cs rfl
    simp [Value.okWide, Cell.okWide, Cell.ok, ht] at hv
  have hc : v.cells = #[v] := by cases v <;> first | rfl | exact absurd rfl (hna _)
  rw [hc] at h1
  exact (List.cons.inj h1).1
theorem arg_str {r : Reach} {b0 : Nat} {H : Type} {enc : TypeId × Value → H} {w : World} {v : Value} {d : DataW H} {ps : List MemPlace} (ht : P.underlying t = some .string) (hv : Value.okWide P w r b0 t v)
    (h : DataW.Trod enc P w 0 (fun _ => true) true t v d ps) : ∃ s : Str, v = vS s ∧ s.length ≤ maxLen := by
  obtain ⟨s, h1, h2⟩ := rd_arg (cells := fun s : Str => [vS s]) (R := fun _ s => s.length ≤ maxLen) (fun {_} => rd_str ht) h
  refine ⟨s, ?_, h2⟩
  have hna : ∀ cs, v ≠ .agg cs := by
    rintro cs rfl
    simp [Value.okWide, Cell.okWide, Cell.ok, ht] at hv
  have hc : v.cells = #[v] := by cases v <;> first | rfl | exact absurd rfl (hna _)
  rw [hc] at h1
  exact (List.cons.inj h1).1
theorem arg_int {k : IntKind} {r : Reach} {b0 : Nat} {H : Type} {enc : TypeId × Value → H} {w : World} {v : Value} {d : DataW H} {ps : List MemPlace} (ht : P.underlying t = some (.int k)) (hv : Value.okWide P w r b0 t v)
    (h : DataW.Trod enc P w 0 (fun _ => true) true t v d ps) : ∃ n : Int, v = .int k n ∧ wfI k n := by
  obtain ⟨s, h1, h2⟩ := rd_arg (cells := fun n : Int => [.int k n]) (R := fun _ n => wfI k n) (fun {_} => rd_int ht) h
  refine ⟨s, ?_, h2⟩
  have hna : ∀ cs, v ≠ .agg cs := by
    rintro cs rfl
    simp [Value.okWide, Cell.okWide, Cell.ok, ht] at hv
  have hc : v.cells = #[v] := by cases v <;> first | rfl | exact absurd rfl (hna _)
  rw [hc] at h1
  exact (List.cons.inj h1).1
theorem arg_st {S : Type} {cells : S → List Value} {R : Hp → S → Prop} {fs : Array Field} {r : Reach} {b0 : Nat} {H : Type} {enc : TypeId × Value → H} {w : World} {v : Value} {d : DataW H} {ps : List MemPlace} (ht : P.underlying t = some (.struct fs)) (hr : Rd P t cells R) (hv : Value.okWide P w r b0 t v)
    (h : DataW.Trod enc P w 0 (fun _ => true) true t v d ps) : ∃ x, v = .agg (cells x).toArray ∧ R w.heap x := by
  obtain ⟨s, h1, h2⟩ := rd_arg hr h
  refine ⟨s, ?_, h2⟩
  unfold Value.okWide at hv
  rw [ht] at hv
  obtain ⟨cs, rfl, _⟩ := hv
  simp only [Value.cells] at h1
  rw [← h1]
end Lf
end Go
namespace Go.Proofs.L
open Go.Lf Go.Crn
theorem ck3 : Try.prog.cellsOf 3 = 1 := by kernel_rfl
abbrev R3 (_h : Hp) (_x : Int) : Prop := wfI .i64 _x
theorem rd3 : Rd Try.prog 3 (fun x : Int => [.int .i64 x]) R3 := rd_int Try.underlying3
theorem ck27 : Try.prog.cellsOf 27 = 2 := by kernel_rfl
def R27 (h : Hp) (x : S_api_Stamp) : Prop := wfI .i64 x.Time ∧ wfI .i64 x.Who
theorem rd27 : Rd Try.prog 27 S_api_Stamp.cells R27 := rd_struct (N := 2) Try.underlying27 ck27 fun {_} enc w d0 l0 hf => by
    obtain ⟨c0, d1, rfl, l1⟩ := lc l0
    obtain ⟨c1, d2, rfl, l2⟩ := lc l1
    obtain rfl := List.eq_nil_of_length_eq_zero l2
    obtain ⟨m0, y0, f0⟩ : ∃ n y, DataW.trod enc Try.prog w 0 (fun _ => true) true n 3 [c0] = some y := by have := hf 0 _ rfl; change ∃ n y, DataW.trod enc Try.prog w 0 (fun _ => true) true n 3 (List.take (Try.prog.cellsOf 3) _) = some y at this; rw [ck3] at this; exact this
    obtain ⟨x0, e0, r0⟩ := rd3 enc w _ _ _ f0
    obtain ⟨m1, y1, f1⟩ : ∃ n y, DataW.trod enc Try.prog w 0 (fun _ => true) true n 3 [c1] = some y := by have := hf 1 _ rfl; change ∃ n y, DataW.trod enc Try.prog w 0 (fun _ => true) true n 3 (List.take (Try.prog.cellsOf 3) _) = some y at this; rw [ck3] at this; exact this
    obtain ⟨x1, e1, r1⟩ := rd3 enc w _ _ _ f1
    refine ⟨⟨x0, x1⟩, ?_, r0, r1⟩
    show [c0] ++ ([c1] ++ []) = _
    rw [e0, e1]; rfl
theorem ck29 : Try.prog.cellsOf 29 = 8 := by kernel_rfl
abbrev R29 (_h : Hp) (_x : A8 Int) : Prop := (wfI .i64 _x.a0 ∧ wfI .i64 _x.a1 ∧ wfI .i64 _x.a2 ∧ wfI .i64 _x.a3 ∧ wfI .i64 _x.a4 ∧ wfI .i64 _x.a5 ∧ wfI .i64 _x.a6 ∧ wfI .i64 _x.a7)
theorem rd29 : Rd Try.prog 29 (A8.cells .i64) R29 := rd_A8 Try.underlying29 Try.underlying3 (by kernel_rfl) (by kernel_rfl)
theorem ck9 : Try.prog.cellsOf 9 = 1 := by kernel_rfl
abbrev R9 (_h : Hp) (_x : Str) : Prop := _x.length ≤ maxLen
theorem rd9 : Rd Try.prog 9 (fun x : Str => [vS x]) R9 := rd_str Try.underlying9
theorem ck47 : Try.prog.cellsOf 47 = 1 := by kernel_rfl
abbrev R47 (_h : Hp) (_x : Int) : Prop := wfI .u64 _x
theorem rd47 : Rd Try.prog 47 (fun x : Int => [.int .u64 x]) R47 := rd_int Try.underlying47
theorem ck49 : Try.prog.cellsOf 49 = 4 := by kernel_rfl
def R49 (h : Hp) (x : S_api_Attr) : Prop := R27 h x.At ∧ wfI .i64 x.Mode ∧ wfI .u64 x.Time
theorem rd49 : Rd Try.prog 49 S_api_Attr.cells R49 := rd_struct (N := 4) Try.underlying49 ck49 fun {_} enc w d0 l0 hf => by
    obtain ⟨c0, d1, rfl, l1⟩ := lc l0
    obtain ⟨c1, d2, rfl, l2⟩ := lc l1
    obtain ⟨c2, d3, rfl, l3⟩ := lc l2
    obtain ⟨c3, d4, rfl, l4⟩ := lc l3
    obtain rfl := List.eq_nil_of_length_eq_zero l4
    obtain ⟨m0, y0, f0⟩ : ∃ n y, DataW.trod enc Try.prog w 0 (fun _ => true) true n 27 [c0, c1] = some y := by have := hf 0 _ rfl; change ∃ n y, DataW.trod enc Try.prog w 0 (fun _ => true) true n 27 (List.take (Try.prog.cellsOf 27) _) = some y at this; rw [ck27] at this; exact this
    obtain ⟨x0, e0, r0⟩ := rd27 enc w _ _ _ f0
    obtain ⟨m1, y1, f1⟩ : ∃ n y, DataW.trod enc Try.prog w 0 (fun _ => true) true n 3 [c2] = some y := by have := hf 1 _ rfl; change ∃ n y, DataW.trod enc Try.prog w 0 (fun _ => true) true n 3 (List.take (Try.prog.cellsOf 3) _) = some y at this; rw [ck3] at this; exact this
    obtain ⟨x1, e1, r1⟩ := rd3 enc w _ _ _ f1
    obtain ⟨m2, y2, f2⟩ : ∃ n y, DataW.trod enc Try.prog w 0 (fun _ => true) true n 47 [c3] = some y := by have := hf 2 _ rfl; change ∃ n y, DataW.trod enc Try.prog w 0 (fun _ => true) true n 47 (List.take (Try.prog.cellsOf 47) _) = some y at this; rw [ck47] at this; exact this
    obtain ⟨x2, e2, r2⟩ := rd47 enc w _ _ _ f2
    refine ⟨⟨x0, x1, x2⟩, ?_, r0, r1, r2⟩
    show [c0, c1] ++ ([c2] ++ ([c3] ++ [])) = _
    rw [e0, e1, e2]; rfl
theorem ck51 : Try.prog.cellsOf 51 = 3 := by kernel_rfl
def R51 (h : Hp) (x : S_api_Size) : Prop := R27 h x.At ∧ wfI .i64 x.N
theorem rd51 : Rd Try.prog 51 S_api_Size.cells R51 := rd_struct (N := 3) Try.underlying51 ck51 fun {_} enc w d0 l0 hf => by
    obtain ⟨c0, d1, rfl, l1⟩ := lc l0
    obtain ⟨c1, d2, rfl, l2⟩ := lc l1
    obtain ⟨c2, d3, rfl, l3⟩ := lc l2
    obtain rfl := List.eq_nil_of_length_eq_zero l3
    obtain ⟨m0, y0, f0⟩ : ∃ n y, DataW.trod enc Try.prog w 0 (fun _ => true) true n 27 [c0, c1] = some y := by have := hf 0 _ rfl; change ∃ n y, DataW.trod enc Try.prog w 0 (fun _ => true) true n 27 (List.take (Try.prog.cellsOf 27) _) = some y at this; rw [ck27] at this; exact this
    obtain ⟨x0, e0, r0⟩ := rd27 enc w _ _ _ f0
    obtain ⟨m1, y1, f1⟩ : ∃ n y, DataW.trod enc Try.prog w 0 (fun _ => true) true n 3 [c2] = some y := by have := hf 1 _ rfl; change ∃ n y, DataW.trod enc Try.prog w 0 (fun _ => true) true n 3 (List.take (Try.prog.cellsOf 3) _) = some y at this; rw [ck3] at this; exact this
    obtain ⟨x1, e1, r1⟩ := rd3 enc w _ _ _ f1
    refine ⟨⟨x0, x1⟩, ?_, r0, r1⟩
    show [c0, c1] ++ ([c2] ++ []) = _
    rw [e0, e1]; rfl
theorem ck60 : Try.prog.cellsOf 60 = 4 := by kernel_rfl
def R60 (h : Hp) (x : S_api_Piece) : Prop := wfI .i64 x.Index ∧ R27 h x.At ∧ x.Data.length ≤ maxLen
theorem rd60 : Rd Try.prog 60 S_api_Piece.cells R60 := rd_struct (N := 4) Try.underlying60 ck60 fun {_} enc w d0 l0 hf => by
    obtain ⟨c0, d1, rfl, l1⟩ := lc l0
    obtain ⟨c1, d2, rfl, l2⟩ := lc l1
    obtain ⟨c2, d3, rfl, l3⟩ := lc l2
    obtain ⟨c3, d4, rfl, l4⟩ := lc l3
    obtain rfl := List.eq_nil_of_length_eq_zero l4
    obtain ⟨m0, y0, f0⟩ : ∃ n y, DataW.trod enc Try.prog w 0 (fun _ => true) true n 3 [c0] = some y := by have := hf 0 _ rfl; change ∃ n y, DataW.trod enc Try.prog w 0 (fun _ => true) true n 3 (List.take (Try.prog.cellsOf 3) _) = some y at this; rw [ck3] at this; exact this
    obtain ⟨x0, e0, r0⟩ := rd3 enc w _ _ _ f0
    obtain ⟨m1, y1, f1⟩ : ∃ n y, DataW.trod enc Try.prog w 0 (fun _ => true) true n 27 [c1, c2] = some y := by have := hf 1 _ rfl; change ∃ n y, DataW.trod enc Try.prog w 0 (fun _ => true) true n 27 (List.take (Try.prog.cellsOf 27) _) = some y at this; rw [ck27] at this; exact this
    obtain ⟨x1, e1, r1⟩ := rd27 enc w _ _ _ f1
    obtain ⟨m2, y2, f2⟩ : ∃ n y, DataW.trod enc Try.prog w 0 (fun _ => true) true n 9 [c3] = some y := by have := hf 2 _ rfl; change ∃ n y, DataW.trod enc Try.prog w 0 (fun _ => true) true n 9 (List.take (Try.prog.cellsOf 9) _) = some y at this; rw [ck9] at this; exact this
    obtain ⟨x2, e2, r2⟩ := rd9 enc w _ _ _ f2
    refine ⟨⟨x0, x1, x2⟩, ?_, r0, r1, r2⟩
    show [c0] ++ ([c1, c2] ++ ([c3] ++ [])) = _
    rw [e0, e1, e2]; rfl
theorem ck52 : Try.prog.cellsOf 52 = 1 := by kernel_rfl
abbrev R52 (_h : Hp) (_x : Sl) : Prop := RdSl (⟨S_api_Piece.cells, 4, fun _ => rfl, fun _ => rfl⟩ : Elt S_api_Piece) R60 _h _x
theorem rd52 : Rd Try.prog 52 (fun x : Sl => [Sl.enc x]) R52 := rd_slice (El := (⟨S_api_Piece.cells, 4, fun _ => rfl, fun _ => rfl⟩ : Elt S_api_Piece)) Try.underlying52 rd60 ck60 (by decide)
theorem ck4 : Try.prog.cellsOf 4 = 1 := by kernel_rfl
abbrev R4 (_h : Hp) (_x : Bool) : Prop := True
theorem rd4 : Rd Try.prog 4 (fun x : Bool => [.bool x]) R4 := rd_bool Try.underlying4
theorem ck62 : Try.prog.cellsOf 62 = 5 := by kernel_rfl
def R62 (h : Hp) (x : S_api_Xattr) : Prop := x.Name.length ≤ maxLen ∧ R27 h x.At ∧ x.Val.length ≤ maxLen ∧ True
theorem rd62 : Rd Try.prog 62 S_api_Xattr.cells R62 := rd_struct (N := 5) Try.underlying62 ck62 fun {_} enc w d0 l0 hf => by
    obtain ⟨c0, d1, rfl, l1⟩ := lc l0
    obtain ⟨c1, d2, rfl, l2⟩ := lc l1
    obtain ⟨c2, d3, rfl, l3⟩ := lc l2
    obtain ⟨c3, d4, rfl, l4⟩ := lc l3
    obtain ⟨c4, d5, rfl, l5⟩ := lc l4
    obtain rfl := List.eq_nil_of_length_eq_zero l5
    obtain ⟨m0, y0, f0⟩ : ∃ n y, DataW.trod enc Try.prog w 0 (fun _ => true) true n 9 [c0] = some y := by have := hf 0 _ rfl; change ∃ n y, DataW.trod enc Try.prog w 0 (fun _ => true) true n 9 (List.take (Try.prog.cellsOf 9) _) = some y at this; rw [ck9] at this; exact this
    obtain ⟨x0, e0, r0⟩ := rd9 enc w _ _ _ f0
    obtain ⟨m1, y1, f1⟩ : ∃ n y, DataW.trod enc Try.prog w 0 (fun _ => true) true n 27 [c1, c2] = some y := by have := hf 1 _ rfl; change ∃ n y, DataW.trod enc Try.prog w 0 (fun _ => true) true n 27 (List.take (Try.prog.cellsOf 27) _) = some y at this; rw [ck27] at this; exact this
    obtain ⟨x1, e1, r1⟩ := rd27 enc w _ _ _ f1
    obtain ⟨m2, y2, f2⟩ : ∃ n y, DataW.trod enc Try.prog w 0 (fun _ => true) true n 9 [c3] = some y := by have := hf 2 _ rfl; change ∃ n y, DataW.trod enc Try.prog w 0 (fun _ => true) true n 9 (List.take (Try.prog.cellsOf 9) _) = some y at this; rw [ck9] at this; exact this
    obtain ⟨x2, e2, r2⟩ := rd9 enc w _ _ _ f2
    obtain ⟨m3, y3, f3⟩ : ∃ n y, DataW.trod enc Try.prog w 0 (fun _ => true) true n 4 [c4] = some y := by have := hf 3 _ rfl; change ∃ n y, DataW.trod enc Try.prog w 0 (fun _ => true) true n 4 (List.take (Try.prog.cellsOf 4) _) = some y at this; rw [ck4] at this; exact this
    obtain ⟨x3, e3, r3⟩ := rd4 enc w _ _ _ f3
    refine ⟨⟨x0, x1, x2, x3⟩, ?_, r0, r1, r2, r3⟩
    show [c0] ++ ([c1, c2] ++ ([c3] ++ ([c4] ++ []))) = _
    rw [e0, e1, e2, e3]; rfl
theorem ck53 : Try.prog.cellsOf 53 = 1 := by kernel_rfl
abbrev R53 (_h : Hp) (_x : Sl) : Prop := RdSl (⟨S_api_Xattr.cells, 5, fun _ => rfl, fun _ => rfl⟩ : Elt S_api_Xattr) R62 _h _x
theorem rd53 : Rd Try.prog 53 (fun x : Sl => [Sl.enc x]) R53 := rd_slice (El := (⟨S_api_Xattr.cells, 5, fun _ => rfl, fun _ => rfl⟩ : Elt S_api_Xattr)) Try.underlying53 rd62 ck62 (by decide)
theorem ck55 : Try.prog.cellsOf 55 = 13 := by kernel_rfl
def R55 (h : Hp) (x : S_api_Inode) : Prop := R27 h x.Id ∧ wfI .i64 x.Kind ∧ x.Text.length ≤ maxLen ∧ R49 h x.Attr ∧ R51 h x.Size ∧ RdSl (⟨S_api_Piece.cells, 4, fun _ => rfl, fun _ => rfl⟩ : Elt S_api_Piece) R60 h x.Pieces ∧ RdSl (⟨S_api_Xattr.cells, 5, fun _ => rfl, fun _ => rfl⟩ : Elt S_api_Xattr) R62 h x.Xattrs
theorem rd55 : Rd Try.prog 55 S_api_Inode.cells R55 := rd_struct (N := 13) Try.underlying55 ck55 fun {_} enc w d0 l0 hf => by
    obtain ⟨c0, d1, rfl, l1⟩ := lc l0
    obtain ⟨c1, d2, rfl, l2⟩ := lc l1
    obtain ⟨c2, d3, rfl, l3⟩ := lc l2
    obtain ⟨c3, d4, rfl, l4⟩ := lc l3
    obtain ⟨c4, d5, rfl, l5⟩ := lc l4
    obtain ⟨c5, d6, rfl, l6⟩ := lc l5
    obtain ⟨c6, d7, rfl, l7⟩ := lc l6
    obtain ⟨c7, d8, rfl, l8⟩ := lc l7
    obtain ⟨c8, d9, rfl, l9⟩ := lc l8
    obtain ⟨c9, d10, rfl, l10⟩ := lc l9
    obtain ⟨c10, d11, rfl, l11⟩ := lc l10
    obtain ⟨c11, d12, rfl, l12⟩ := lc l11
    obtain ⟨c12, d13, rfl, l13⟩ := lc l12
    obtain rfl := List.eq_nil_of_length_eq_zero l13
    obtain ⟨m0, y0, f0⟩ : ∃ n y, DataW.trod enc Try.prog w 0 (fun _ => true) true n 27 [c0, c1] = some y := by have := hf 0 _ rfl; change ∃ n y, DataW.trod enc Try.prog w 0 (fun _ => true) true n 27 (List.take (Try.prog.cellsOf 27) _) = some y at this; rw [ck27] at this; exact this
    obtain ⟨x0, e0, r0⟩ := rd27 enc w _ _ _ f0
    obtain ⟨m1, y1, f1⟩ : ∃ n y, DataW.trod enc Try.prog w 0 (fun _ => true) true n 3 [c2] = some y := by have := hf 1 _ rfl; change ∃ n y, DataW.trod enc Try.prog w 0 (fun _ => true) true n 3 (List.take (Try.prog.cellsOf 3) _) = some y at this; rw [ck3] at this; exact this
    obtain ⟨x1, e1, r1⟩ := rd3 enc w _ _ _ f1
    obtain ⟨m2, y2, f2⟩ : ∃ n y, DataW.trod enc Try.prog w 0 (fun _ => true) true n 9 [c3] = some y := by have := hf 2 _ rfl; change ∃ n y, DataW.trod enc Try.prog w 0 (fun _ => true) true n 9 (List.take (Try.prog.cellsOf 9) _) = some y at this; rw [ck9] at this; exact this
    obtain ⟨x2, e2, r2⟩ := rd9 enc w _ _ _ f2
    obtain ⟨m3, y3, f3⟩ : ∃ n y, DataW.trod enc Try.prog w 0 (fun _ => true) true n 49 [c4, c5, c6, c7] = some y := by have := hf 3 _ rfl; change ∃ n y, DataW.trod enc Try.prog w 0 (fun _ => true) true n 49 (List.take (Try.prog.cellsOf 49) _) = some y at this; rw [ck49] at this; exact this
    obtain ⟨x3, e3, r3⟩ := rd49 enc w _ _ _ f3
    obtain ⟨m4, y4, f4⟩ : ∃ n y, DataW.trod enc Try.prog w 0 (fun _ => true) true n 51 [c8, c9, c10] = some y := by have := hf 4 _ rfl; change ∃ n y, DataW.trod enc Try.prog w 0 (fun _ => true) true n 51 (List.take (Try.prog.cellsOf 51) _) = some y at this; rw [ck51] at this; exact this
    obtain ⟨x4, e4, r4⟩ := rd51 enc w _ _ _ f4
    obtain ⟨m5, y5, f5⟩ : ∃ n y, DataW.trod enc Try.prog w 0 (fun _ => true) true n 52 [c11] = some y := by have := hf 5 _ rfl; change ∃ n y, DataW.trod enc Try.prog w 0 (fun _ => true) true n 52 (List.take (Try.prog.cellsOf 52) _) = some y at this; rw [ck52] at this; exact this
    obtain ⟨x5, e5, r5⟩ := rd52 enc w _ _ _ f5
    obtain ⟨m6, y6, f6⟩ : ∃ n y, DataW.trod enc Try.prog w 0 (fun _ => true) true n 53 [c12] = some y := by have := hf 6 _ rfl; change ∃ n y, DataW.trod enc Try.prog w 0 (fun _ => true) true n 53 (List.take (Try.prog.cellsOf 53) _) = some y at this; rw [ck53] at this; exact this
    obtain ⟨x6, e6, r6⟩ := rd53 enc w _ _ _ f6
    refine ⟨⟨x0, x1, x2, x3, x4, x5, x6⟩, ?_, r0, r1, r2, r3, r4, r5, r6⟩
    show [c0, c1] ++ ([c2] ++ ([c3] ++ ([c4, c5, c6, c7] ++ ([c8, c9, c10] ++ ([c11] ++ ([c12] ++ [])))))) = _
    rw [e0, e1, e2, e3, e4, e5, e6]; rfl
theorem ck30 : Try.prog.cellsOf 30 = 1 := by kernel_rfl
abbrev R30 (_h : Hp) (_x : Sl) : Prop := RdSl (⟨S_api_Inode.cells, 13, fun _ => rfl, fun _ => rfl⟩ : Elt S_api_Inode) R55 _h _x
theorem rd30 : Rd Try.prog 30 (fun x : Sl => [Sl.enc x]) R30 := rd_slice (El := (⟨S_api_Inode.cells, 13, fun _ => rfl, fun _ => rfl⟩ : Elt S_api_Inode)) Try.underlying30 rd55 ck55 (by decide)
theorem ck57 : Try.prog.cellsOf 57 = 25 := by kernel_rfl
def R57 (h : Hp) (x : S_api_Link) : Prop := R27 h x.Id ∧ R27 h x.Node ∧ R27 h x.At ∧ R27 h x.Parent ∧ x.Name.length ≤ maxLen ∧ (wfI .i64 x.Alive.a0 ∧ wfI .i64 x.Alive.a1 ∧ wfI .i64 x.Alive.a2 ∧ wfI .i64 x.Alive.a3 ∧ wfI .i64 x.Alive.a4 ∧ wfI .i64 x.Alive.a5 ∧ wfI .i64 x.Alive.a6 ∧ wfI .i64 x.Alive.a7) ∧ (wfI .i64 x.Dead.a0 ∧ wfI .i64 x.Dead.a1 ∧ wfI .i64 x.Dead.a2 ∧ wfI .i64 x.Dead.a3 ∧ wfI .i64 x.Dead.a4 ∧ wfI .i64 x.Dead.a5 ∧ wfI .i64 x.Dead.a6 ∧ wfI .i64 x.Dead.a7)
theorem rd57 : Rd Try.prog 57 S_api_Link.cells R57 := rd_struct (N := 25) Try.underlying57 ck57 fun {_} enc w d0 l0 hf => by
    obtain ⟨c0, d1, rfl, l1⟩ := lc l0
    obtain ⟨c1, d2, rfl, l2⟩ := lc l1
    obtain ⟨c2, d3, rfl, l3⟩ := lc l2
    obtain ⟨c3, d4, rfl, l4⟩ := lc l3
    obtain ⟨c4, d5, rfl, l5⟩ := lc l4
    obtain ⟨c5, d6, rfl, l6⟩ := lc l5
    obtain ⟨c6, d7, rfl, l7⟩ := lc l6
    obtain ⟨c7, d8, rfl, l8⟩ := lc l7
    obtain ⟨c8, d9, rfl, l9⟩ := lc l8
    obtain ⟨c9, d10, rfl, l10⟩ := lc l9
    obtain ⟨c10, d11, rfl, l11⟩ := lc l10
    obtain ⟨c11, d12, rfl, l12⟩ := lc l11
    obtain ⟨c12, d13, rfl, l13⟩ := lc l12
    obtain ⟨c13, d14, rfl, l14⟩ := lc l13
    obtain ⟨c14, d15, rfl, l15⟩ := lc l14
    obtain ⟨c15, d16, rfl, l16⟩ := lc l15
    obtain ⟨c16, d17, rfl, l17⟩ := lc l16
    obtain ⟨c17, d18, rfl, l18⟩ := lc l17
    obtain ⟨c18, d19, rfl, l19⟩ := lc l18
    obtain ⟨c19, d20, rfl, l20⟩ := lc l19
    obtain ⟨c20, d21, rfl, l21⟩ := lc l20
    obtain ⟨c21, d22, rfl, l22⟩ := lc l21
    obtain ⟨c22, d23, rfl, l23⟩ := lc l22
    obtain ⟨c23, d24, rfl, l24⟩ := lc l23
    obtain ⟨c24, d25, rfl, l25⟩ := lc l24
    obtain rfl := List.eq_nil_of_length_eq_zero l25
    obtain ⟨m0, y0, f0⟩ : ∃ n y, DataW.trod enc Try.prog w 0 (fun _ => true) true n 27 [c0, c1] = some y := by have := hf 0 _ rfl; change ∃ n y, DataW.trod enc Try.prog w 0 (fun _ => true) true n 27 (List.take (Try.prog.cellsOf 27) _) = some y at this; rw [ck27] at this; exact this
    obtain ⟨x0, e0, r0⟩ := rd27 enc w _ _ _ f0
    obtain ⟨m1, y1, f1⟩ : ∃ n y, DataW.trod enc Try.prog w 0 (fun _ => true) true n 27 [c2, c3] = some y := by have := hf 1 _ rfl; change ∃ n y, DataW.trod enc Try.prog w 0 (fun _ => true) true n 27 (List.take (Try.prog.cellsOf 27) _) = some y at this; rw [ck27] at this; exact this
    obtain ⟨x1, e1, r1⟩ := rd27 enc w _ _ _ f1
    obtain ⟨m2, y2, f2⟩ : ∃ n y, DataW.trod enc Try.prog w 0 (fun _ => true) true n 27 [c4, c5] = some y := by have := hf 2 _ rfl; change ∃ n y, DataW.trod enc Try.prog w 0 (fun _ => true) true n 27 (List.take (Try.prog.cellsOf 27) _) = some y at this; rw [ck27] at this; exact this
    obtain ⟨x2, e2, r2⟩ := rd27 enc w _ _ _ f2
    obtain ⟨m3, y3, f3⟩ : ∃ n y, DataW.trod enc Try.prog w 0 (fun _ => true) true n 27 [c6, c7] = some y := by have := hf 3 _ rfl; change ∃ n y, DataW.trod enc Try.prog w 0 (fun _ => true) true n 27 (List.take (Try.prog.cellsOf 27) _) = some y at this; rw [ck27] at this; exact this
    obtain ⟨x3, e3, r3⟩ := rd27 enc w _ _ _ f3
    obtain ⟨m4, y4, f4⟩ : ∃ n y, DataW.trod enc Try.prog w 0 (fun _ => true) true n 9 [c8] = some y := by have := hf 4 _ rfl; change ∃ n y, DataW.trod enc Try.prog w 0 (fun _ => true) true n 9 (List.take (Try.prog.cellsOf 9) _) = some y at this; rw [ck9] at this; exact this
    obtain ⟨x4, e4, r4⟩ := rd9 enc w _ _ _ f4
    obtain ⟨m5, y5, f5⟩ : ∃ n y, DataW.trod enc Try.prog w 0 (fun _ => true) true n 29 [c9, c10, c11, c12, c13, c14, c15, c16] = some y := by have := hf 5 _ rfl; change ∃ n y, DataW.trod enc Try.prog w 0 (fun _ => true) true n 29 (List.take (Try.prog.cellsOf 29) _) = some y at this; rw [ck29] at this; exact this
    obtain ⟨x5, e5, r5⟩ := rd29 enc w _ _ _ f5
    obtain ⟨m6, y6, f6⟩ : ∃ n y, DataW.trod enc Try.prog w 0 (fun _ => true) true n 29 [c17, c18, c19, c20, c21, c22, c23, c24] = some y := by have := hf 6 _ rfl; change ∃ n y, DataW.trod enc Try.prog w 0 (fun _ => true) true n 29 (List.take (Try.prog.cellsOf 29) _) = some y at this; rw [ck29] at this; exact this
    obtain ⟨x6, e6, r6⟩ := rd29 enc w _ _ _ f6
    refine ⟨⟨x0, x1, x2, x3, x4, x5, x6⟩, ?_, r0, r1, r2, r3, r4, r5, r6⟩
    show [c0, c1] ++ ([c2, c3] ++ ([c4, c5] ++ ([c6, c7] ++ ([c8] ++ ([c9, c10, c11, c12, c13, c14, c15, c16] ++ ([c17, c18, c19, c20, c21, c22, c23, c24] ++ [])))))) = _
    rw [e0, e1, e2, e3, e4, e5, e6]; rfl
theorem ck31 : Try.prog.cellsOf 31 = 1 := by kernel_rfl
abbrev R31 (_h : Hp) (_x : Sl) : Prop := RdSl (⟨S_api_Link.cells, 25, fun _ => rfl, fun _ => rfl⟩ : Elt S_api_Link) R57 _h _x
theorem rd31 : Rd Try.prog 31 (fun x : Sl => [Sl.enc x]) R31 := rd_slice (El := (⟨S_api_Link.cells, 25, fun _ => rfl, fun _ => rfl⟩ : Elt S_api_Link)) Try.underlying31 rd57 ck57 (by decide)
theorem ck33 : Try.prog.cellsOf 33 = 10 := by kernel_rfl
def R33 (h : Hp) (x : S_api_State) : Prop := (wfI .i64 x.Seen.a0 ∧ wfI .i64 x.Seen.a1 ∧ wfI .i64 x.Seen.a2 ∧ wfI .i64 x.Seen.a3 ∧ wfI .i64 x.Seen.a4 ∧ wfI .i64 x.Seen.a5 ∧ wfI .i64 x.Seen.a6 ∧ wfI .i64 x.Seen.a7) ∧ RdSl (⟨S_api_Inode.cells, 13, fun _ => rfl, fun _ => rfl⟩ : Elt S_api_Inode) R55 h x.Nodes ∧ RdSl (⟨S_api_Link.cells, 25, fun _ => rfl, fun _ => rfl⟩ : Elt S_api_Link) R57 h x.Links
theorem rd33 : Rd Try.prog 33 S_api_State.cells R33 := rd_struct (N := 10) Try.underlying33 ck33 fun {_} enc w d0 l0 hf => by
    obtain ⟨c0, d1, rfl, l1⟩ := lc l0
    obtain ⟨c1, d2, rfl, l2⟩ := lc l1
    obtain ⟨c2, d3, rfl, l3⟩ := lc l2
    obtain ⟨c3, d4, rfl, l4⟩ := lc l3
    obtain ⟨c4, d5, rfl, l5⟩ := lc l4
    obtain ⟨c5, d6, rfl, l6⟩ := lc l5
    obtain ⟨c6, d7, rfl, l7⟩ := lc l6
    obtain ⟨c7, d8, rfl, l8⟩ := lc l7
    obtain ⟨c8, d9, rfl, l9⟩ := lc l8
    obtain ⟨c9, d10, rfl, l10⟩ := lc l9
    obtain rfl := List.eq_nil_of_length_eq_zero l10
    obtain ⟨m0, y0, f0⟩ : ∃ n y, DataW.trod enc Try.prog w 0 (fun _ => true) true n 29 [c0, c1, c2, c3, c4, c5, c6, c7] = some y := by have := hf 0 _ rfl; change ∃ n y, DataW.trod enc Try.prog w 0 (fun _ => true) true n 29 (List.take (Try.prog.cellsOf 29) _) = some y at this; rw [ck29] at this; exact this
    obtain ⟨x0, e0, r0⟩ := rd29 enc w _ _ _ f0
    obtain ⟨m1, y1, f1⟩ : ∃ n y, DataW.trod enc Try.prog w 0 (fun _ => true) true n 30 [c8] = some y := by have := hf 1 _ rfl; change ∃ n y, DataW.trod enc Try.prog w 0 (fun _ => true) true n 30 (List.take (Try.prog.cellsOf 30) _) = some y at this; rw [ck30] at this; exact this
    obtain ⟨x1, e1, r1⟩ := rd30 enc w _ _ _ f1
    obtain ⟨m2, y2, f2⟩ : ∃ n y, DataW.trod enc Try.prog w 0 (fun _ => true) true n 31 [c9] = some y := by have := hf 2 _ rfl; change ∃ n y, DataW.trod enc Try.prog w 0 (fun _ => true) true n 31 (List.take (Try.prog.cellsOf 31) _) = some y at this; rw [ck31] at this; exact this
    obtain ⟨x2, e2, r2⟩ := rd31 enc w _ _ _ f2
    refine ⟨⟨x0, x1, x2⟩, ?_, r0, r1, r2⟩
    show [c0, c1, c2, c3, c4, c5, c6, c7] ++ ([c8] ++ ([c9] ++ [])) = _
    rw [e0, e1, e2]; rfl
theorem ck35 : Try.prog.cellsOf 35 = 21 := by kernel_rfl
def R35 (h : Hp) (x : S_api_Event) : Prop := R27 h x.At ∧ wfI .i64 x.Vol ∧ (wfI .i64 x.Knew.a0 ∧ wfI .i64 x.Knew.a1 ∧ wfI .i64 x.Knew.a2 ∧ wfI .i64 x.Knew.a3 ∧ wfI .i64 x.Knew.a4 ∧ wfI .i64 x.Knew.a5 ∧ wfI .i64 x.Knew.a6 ∧ wfI .i64 x.Knew.a7) ∧ R33 h x.Delta
theorem rd35 : Rd Try.prog 35 S_api_Event.cells R35 := rd_struct (N := 21) Try.underlying35 ck35 fun {_} enc w d0 l0 hf => by
    obtain ⟨c0, d1, rfl, l1⟩ := lc l0
    obtain ⟨c1, d2, rfl, l2⟩ := lc l1
    obtain ⟨c2, d3, rfl, l3⟩ := lc l2
    obtain ⟨c3, d4, rfl, l4⟩ := lc l3
    obtain ⟨c4, d5, rfl, l5⟩ := lc l4
    obtain ⟨c5, d6, rfl, l6⟩ := lc l5
    obtain ⟨c6, d7, rfl, l7⟩ := lc l6
    obtain ⟨c7, d8, rfl, l8⟩ := lc l7
    obtain ⟨c8, d9, rfl, l9⟩ := lc l8
    obtain ⟨c9, d10, rfl, l10⟩ := lc l9
    obtain ⟨c10, d11, rfl, l11⟩ := lc l10
    obtain ⟨c11, d12, rfl, l12⟩ := lc l11
    obtain ⟨c12, d13, rfl, l13⟩ := lc l12
    obtain ⟨c13, d14, rfl, l14⟩ := lc l13
    obtain ⟨c14, d15, rfl, l15⟩ := lc l14
    obtain ⟨c15, d16, rfl, l16⟩ := lc l15
    obtain ⟨c16, d17, rfl, l17⟩ := lc l16
    obtain ⟨c17, d18, rfl, l18⟩ := lc l17
    obtain ⟨c18, d19, rfl, l19⟩ := lc l18
    obtain ⟨c19, d20, rfl, l20⟩ := lc l19
    obtain ⟨c20, d21, rfl, l21⟩ := lc l20
    obtain rfl := List.eq_nil_of_length_eq_zero l21
    obtain ⟨m0, y0, f0⟩ : ∃ n y, DataW.trod enc Try.prog w 0 (fun _ => true) true n 27 [c0, c1] = some y := by have := hf 0 _ rfl; change ∃ n y, DataW.trod enc Try.prog w 0 (fun _ => true) true n 27 (List.take (Try.prog.cellsOf 27) _) = some y at this; rw [ck27] at this; exact this
    obtain ⟨x0, e0, r0⟩ := rd27 enc w _ _ _ f0
    obtain ⟨m1, y1, f1⟩ : ∃ n y, DataW.trod enc Try.prog w 0 (fun _ => true) true n 3 [c2] = some y := by have := hf 1 _ rfl; change ∃ n y, DataW.trod enc Try.prog w 0 (fun _ => true) true n 3 (List.take (Try.prog.cellsOf 3) _) = some y at this; rw [ck3] at this; exact this
    obtain ⟨x1, e1, r1⟩ := rd3 enc w _ _ _ f1
    obtain ⟨m2, y2, f2⟩ : ∃ n y, DataW.trod enc Try.prog w 0 (fun _ => true) true n 29 [c3, c4, c5, c6, c7, c8, c9, c10] = some y := by have := hf 2 _ rfl; change ∃ n y, DataW.trod enc Try.prog w 0 (fun _ => true) true n 29 (List.take (Try.prog.cellsOf 29) _) = some y at this; rw [ck29] at this; exact this
    obtain ⟨x2, e2, r2⟩ := rd29 enc w _ _ _ f2
    obtain ⟨m3, y3, f3⟩ : ∃ n y, DataW.trod enc Try.prog w 0 (fun _ => true) true n 33 [c11, c12, c13, c14, c15, c16, c17, c18, c19, c20] = some y := by have := hf 3 _ rfl; change ∃ n y, DataW.trod enc Try.prog w 0 (fun _ => true) true n 33 (List.take (Try.prog.cellsOf 33) _) = some y at this; rw [ck33] at this; exact this
    obtain ⟨x3, e3, r3⟩ := rd33 enc w _ _ _ f3
    refine ⟨⟨x0, x1, x2, x3⟩, ?_, r0, r1, r2, r3⟩
    show [c0, c1] ++ ([c2] ++ ([c3, c4, c5, c6, c7, c8, c9, c10] ++ ([c11, c12, c13, c14, c15, c16, c17, c18, c19, c20] ++ []))) = _
    rw [e0, e1, e2, e3]; rfl
theorem ck22 : Try.prog.cellsOf 22 = 1 := by kernel_rfl
abbrev R22 (_h : Hp) (_x : Sl) : Prop := RdSl (⟨S_api_Event.cells, 21, fun _ => rfl, fun _ => rfl⟩ : Elt S_api_Event) R35 _h _x
theorem rd22 : Rd Try.prog 22 (fun x : Sl => [Sl.enc x]) R22 := rd_slice (El := (⟨S_api_Event.cells, 21, fun _ => rfl, fun _ => rfl⟩ : Elt S_api_Event)) Try.underlying22 rd35 ck35 (by decide)
theorem ck23 : Try.prog.cellsOf 23 = 1 := by kernel_rfl
abbrev R23 (_h : Hp) (_x : Sl) : Prop := RdSl (⟨(fun x : Int => [.int .i64 x]), 1, fun _ => rfl, fun _ => rfl⟩ : Elt Int) R3 _h _x
theorem rd23 : Rd Try.prog 23 (fun x : Sl => [Sl.enc x]) R23 := rd_slice (El := (⟨(fun x : Int => [.int .i64 x]), 1, fun _ => rfl, fun _ => rfl⟩ : Elt Int)) Try.underlying23 rd3 ck3 (by decide)
end Go.Proofs.L
