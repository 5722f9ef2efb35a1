/- Facts on types and functions, and readers of what comes in: printed by a program of the prover's own. -/
import Derived.Test.YtnnlipkoedbnfaaGreatTm
import Derived.Test.YtnnlipkoedbnfaaGreatProg
import Derived.Test.YtnnlipkoedbnfaaGreatLa
import Derived.ProofKit
import Derived.OpenShut
import Derived.WideKeyArgs
set_option linter.unusedVariables false
namespace Go.Proofs.L
open Go.Lf Go.Crn
theorem mixed : Tryz.prog.follows .mixedOrders = true := by kernel_rfl
theorem tz26 : TyZ Tryz.prog 26 (.agg #[.int .i64 0, .int .i64 0, .int .i64 0, .int .i64 0, .int .i64 0, .int .i64 0, .int .i64 0, .int .i64 0]) := tyZ (by kernel_rfl)
theorem ts3 : TyS Tryz.prog 3 1 false := tyS Tryz.underlying3 (by kernel_rfl)
theorem bla26 : BLA Tryz.prog 26 [.int .i64 0, .int .i64 0, .int .i64 0, .int .i64 0, .int .i64 0, .int .i64 0, .int .i64 0, .int .i64 0] := ⟨_, _, _, _, tz26, rfl, Tryz.underlying26, ts3⟩
theorem tc10 : Callable Tryz.prog 10 := ⟨_, _, Tryz.func10, rfl, by kernel_rfl⟩
theorem tc100 : Callable Tryz.prog 100 := ⟨_, _, Tryz.func100, rfl, by kernel_rfl⟩
theorem tc101 : Callable Tryz.prog 101 := ⟨_, _, Tryz.func101, rfl, by kernel_rfl⟩
theorem tc102 : Callable Tryz.prog 102 := ⟨_, _, Tryz.func102, rfl, by kernel_rfl⟩
theorem tc103 : Callable Tryz.prog 103 := ⟨_, _, Tryz.func103, rfl, by kernel_rfl⟩
theorem tc104 : Callable Tryz.prog 104 := ⟨_, _, Tryz.func104, rfl, by kernel_rfl⟩
theorem tc105 : Callable Tryz.prog 105 := ⟨_, _, Tryz.func105, rfl, by kernel_rfl⟩
theorem tc106 : Callable Tryz.prog 106 := ⟨_, _, Tryz.func106, rfl, by kernel_rfl⟩
theorem tc107 : Callable Tryz.prog 107 := ⟨_, _, Tryz.func107, rfl, by kernel_rfl⟩
theorem tc108 : Callable Tryz.prog 108 := ⟨_, _, Tryz.func108, rfl, by kernel_rfl⟩
theorem tc109 : Callable Tryz.prog 109 := ⟨_, _, Tryz.func109, rfl, by kernel_rfl⟩
theorem tc11 : Callable Tryz.prog 11 := ⟨_, _, Tryz.func11, rfl, by kernel_rfl⟩
theorem tc110 : Callable Tryz.prog 110 := ⟨_, _, Tryz.func110, rfl, by kernel_rfl⟩
theorem tc111 : Callable Tryz.prog 111 := ⟨_, _, Tryz.func111, rfl, by kernel_rfl⟩
theorem tc112 : Callable Tryz.prog 112 := ⟨_, _, Tryz.func112, rfl, by kernel_rfl⟩
theorem tc113 : Callable Tryz.prog 113 := ⟨_, _, Tryz.func113, rfl, by kernel_rfl⟩
theorem tc114 : Callable Tryz.prog 114 := ⟨_, _, Tryz.func114, rfl, by kernel_rfl⟩
theorem tc115 : Callable Tryz.prog 115 := ⟨_, _, Tryz.func115, rfl, by kernel_rfl⟩
theorem tc116 : Callable Tryz.prog 116 := ⟨_, _, Tryz.func116, rfl, by kernel_rfl⟩
theorem tc12 : Callable Tryz.prog 12 := ⟨_, _, Tryz.func12, rfl, by kernel_rfl⟩
theorem tc13 : Callable Tryz.prog 13 := ⟨_, _, Tryz.func13, rfl, by kernel_rfl⟩
theorem tc14 : Callable Tryz.prog 14 := ⟨_, _, Tryz.func14, rfl, by kernel_rfl⟩
theorem tc15 : Callable Tryz.prog 15 := ⟨_, _, Tryz.func15, rfl, by kernel_rfl⟩
theorem tc16 : Callable Tryz.prog 16 := ⟨_, _, Tryz.func16, rfl, by kernel_rfl⟩
theorem tc17 : Callable Tryz.prog 17 := ⟨_, _, Tryz.func17, rfl, by kernel_rfl⟩
theorem tc18 : Callable Tryz.prog 18 := ⟨_, _, Tryz.func18, rfl, by kernel_rfl⟩
theorem tc19 : Callable Tryz.prog 19 := ⟨_, _, Tryz.func19, rfl, by kernel_rfl⟩
theorem tc20 : Callable Tryz.prog 20 := ⟨_, _, Tryz.func20, rfl, by kernel_rfl⟩
theorem tc21 : Callable Tryz.prog 21 := ⟨_, _, Tryz.func21, rfl, by kernel_rfl⟩
theorem tc22 : Callable Tryz.prog 22 := ⟨_, _, Tryz.func22, rfl, by kernel_rfl⟩
theorem tc23 : Callable Tryz.prog 23 := ⟨_, _, Tryz.func23, rfl, by kernel_rfl⟩
theorem tc24 : Callable Tryz.prog 24 := ⟨_, _, Tryz.func24, rfl, by kernel_rfl⟩
theorem tc25 : Callable Tryz.prog 25 := ⟨_, _, Tryz.func25, rfl, by kernel_rfl⟩
theorem tc26 : Callable Tryz.prog 26 := ⟨_, _, Tryz.func26, rfl, by kernel_rfl⟩
theorem tc27 : Callable Tryz.prog 27 := ⟨_, _, Tryz.func27, rfl, by kernel_rfl⟩
theorem tc28 : Callable Tryz.prog 28 := ⟨_, _, Tryz.func28, rfl, by kernel_rfl⟩
theorem tc29 : Callable Tryz.prog 29 := ⟨_, _, Tryz.func29, rfl, by kernel_rfl⟩
theorem tc30 : Callable Tryz.prog 30 := ⟨_, _, Tryz.func30, rfl, by kernel_rfl⟩
theorem tc31 : Callable Tryz.prog 31 := ⟨_, _, Tryz.func31, rfl, by kernel_rfl⟩
theorem tc32 : Callable Tryz.prog 32 := ⟨_, _, Tryz.func32, rfl, by kernel_rfl⟩
theorem tc33 : Callable Tryz.prog 33 := ⟨_, _, Tryz.func33, rfl, by kernel_rfl⟩
theorem tc34 : Callable Tryz.prog 34 := ⟨_, _, Tryz.func34, rfl, by kernel_rfl⟩
theorem tc35 : Callable Tryz.prog 35 := ⟨_, _, Tryz.func35, rfl, by kernel_rfl⟩
theorem tc36 : Callable Tryz.prog 36 := ⟨_, _, Tryz.func36, rfl, by kernel_rfl⟩
theorem tc37 : Callable Tryz.prog 37 := ⟨_, _, Tryz.func37, rfl, by kernel_rfl⟩
theorem tc38 : Callable Tryz.prog 38 := ⟨_, _, Tryz.func38, rfl, by kernel_rfl⟩
theorem tc39 : Callable Tryz.prog 39 := ⟨_, _, Tryz.func39, rfl, by kernel_rfl⟩
theorem tc40 : Callable Tryz.prog 40 := ⟨_, _, Tryz.func40, rfl, by kernel_rfl⟩
theorem tc41 : Callable Tryz.prog 41 := ⟨_, _, Tryz.func41, rfl, by kernel_rfl⟩
theorem tc42 : Callable Tryz.prog 42 := ⟨_, _, Tryz.func42, rfl, by kernel_rfl⟩
theorem tc43 : Callable Tryz.prog 43 := ⟨_, _, Tryz.func43, rfl, by kernel_rfl⟩
theorem tc44 : Callable Tryz.prog 44 := ⟨_, _, Tryz.func44, rfl, by kernel_rfl⟩
theorem tc45 : Callable Tryz.prog 45 := ⟨_, _, Tryz.func45, rfl, by kernel_rfl⟩
theorem tc46 : Callable Tryz.prog 46 := ⟨_, _, Tryz.func46, rfl, by kernel_rfl⟩
theorem tc47 : Callable Tryz.prog 47 := ⟨_, _, Tryz.func47, rfl, by kernel_rfl⟩
theorem tc48 : Callable Tryz.prog 48 := ⟨_, _, Tryz.func48, rfl, by kernel_rfl⟩
theorem tc49 : Callable Tryz.prog 49 := ⟨_, _, Tryz.func49, rfl, by kernel_rfl⟩
theorem tc5 : Callable Tryz.prog 5 := ⟨_, _, Tryz.func5, rfl, by kernel_rfl⟩
theorem tc50 : Callable Tryz.prog 50 := ⟨_, _, Tryz.func50, rfl, by kernel_rfl⟩
theorem tc51 : Callable Tryz.prog 51 := ⟨_, _, Tryz.func51, rfl, by kernel_rfl⟩
theorem tc52 : Callable Tryz.prog 52 := ⟨_, _, Tryz.func52, rfl, by kernel_rfl⟩
theorem tc53 : Callable Tryz.prog 53 := ⟨_, _, Tryz.func53, rfl, by kernel_rfl⟩
theorem tc54 : Callable Tryz.prog 54 := ⟨_, _, Tryz.func54, rfl, by kernel_rfl⟩
theorem tc55 : Callable Tryz.prog 55 := ⟨_, _, Tryz.func55, rfl, by kernel_rfl⟩
theorem tc56 : Callable Tryz.prog 56 := ⟨_, _, Tryz.func56, rfl, by kernel_rfl⟩
theorem tc57 : Callable Tryz.prog 57 := ⟨_, _, Tryz.func57, rfl, by kernel_rfl⟩
theorem tc58 : Callable Tryz.prog 58 := ⟨_, _, Tryz.func58, rfl, by kernel_rfl⟩
theorem tc59 : Callable Tryz.prog 59 := ⟨_, _, Tryz.func59, rfl, by kernel_rfl⟩
theorem tc6 : Callable Tryz.prog 6 := ⟨_, _, Tryz.func6, rfl, by kernel_rfl⟩
theorem tc60 : Callable Tryz.prog 60 := ⟨_, _, Tryz.func60, rfl, by kernel_rfl⟩
theorem tc61 : Callable Tryz.prog 61 := ⟨_, _, Tryz.func61, rfl, by kernel_rfl⟩
theorem tc62 : Callable Tryz.prog 62 := ⟨_, _, Tryz.func62, rfl, by kernel_rfl⟩
theorem tc63 : Callable Tryz.prog 63 := ⟨_, _, Tryz.func63, rfl, by kernel_rfl⟩
theorem tc64 : Callable Tryz.prog 64 := ⟨_, _, Tryz.func64, rfl, by kernel_rfl⟩
theorem tc65 : Callable Tryz.prog 65 := ⟨_, _, Tryz.func65, rfl, by kernel_rfl⟩
theorem tc66 : Callable Tryz.prog 66 := ⟨_, _, Tryz.func66, rfl, by kernel_rfl⟩
theorem tc67 : Callable Tryz.prog 67 := ⟨_, _, Tryz.func67, rfl, by kernel_rfl⟩
theorem tc68 : Callable Tryz.prog 68 := ⟨_, _, Tryz.func68, rfl, by kernel_rfl⟩
theorem tc69 : Callable Tryz.prog 69 := ⟨_, _, Tryz.func69, rfl, by kernel_rfl⟩
theorem tc7 : Callable Tryz.prog 7 := ⟨_, _, Tryz.func7, rfl, by kernel_rfl⟩
theorem tc70 : Callable Tryz.prog 70 := ⟨_, _, Tryz.func70, rfl, by kernel_rfl⟩
theorem tc71 : Callable Tryz.prog 71 := ⟨_, _, Tryz.func71, rfl, by kernel_rfl⟩
theorem tc72 : Callable Tryz.prog 72 := ⟨_, _, Tryz.func72, rfl, by kernel_rfl⟩
theorem tc73 : Callable Tryz.prog 73 := ⟨_, _, Tryz.func73, rfl, by kernel_rfl⟩
theorem tc74 : Callable Tryz.prog 74 := ⟨_, _, Tryz.func74, rfl, by kernel_rfl⟩
theorem tc75 : Callable Tryz.prog 75 := ⟨_, _, Tryz.func75, rfl, by kernel_rfl⟩
theorem tc76 : Callable Tryz.prog 76 := ⟨_, _, Tryz.func76, rfl, by kernel_rfl⟩
theorem tc78 : Callable Tryz.prog 78 := ⟨_, _, Tryz.func78, rfl, by kernel_rfl⟩
theorem tc79 : Callable Tryz.prog 79 := ⟨_, _, Tryz.func79, rfl, by kernel_rfl⟩
theorem tc8 : Callable Tryz.prog 8 := ⟨_, _, Tryz.func8, rfl, by kernel_rfl⟩
theorem tc80 : Callable Tryz.prog 80 := ⟨_, _, Tryz.func80, rfl, by kernel_rfl⟩
theorem tc81 : Callable Tryz.prog 81 := ⟨_, _, Tryz.func81, rfl, by kernel_rfl⟩
theorem tc82 : Callable Tryz.prog 82 := ⟨_, _, Tryz.func82, rfl, by kernel_rfl⟩
theorem tc83 : Callable Tryz.prog 83 := ⟨_, _, Tryz.func83, rfl, by kernel_rfl⟩
theorem tc84 : Callable Tryz.prog 84 := ⟨_, _, Tryz.func84, rfl, by kernel_rfl⟩
theorem tc85 : Callable Tryz.prog 85 := ⟨_, _, Tryz.func85, rfl, by kernel_rfl⟩
theorem tc86 : Callable Tryz.prog 86 := ⟨_, _, Tryz.func86, rfl, by kernel_rfl⟩
theorem tc87 : Callable Tryz.prog 87 := ⟨_, _, Tryz.func87, rfl, by kernel_rfl⟩
theorem tc88 : Callable Tryz.prog 88 := ⟨_, _, Tryz.func88, rfl, by kernel_rfl⟩
theorem tc89 : Callable Tryz.prog 89 := ⟨_, _, Tryz.func89, rfl, by kernel_rfl⟩
theorem tc9 : Callable Tryz.prog 9 := ⟨_, _, Tryz.func9, rfl, by kernel_rfl⟩
theorem tc90 : Callable Tryz.prog 90 := ⟨_, _, Tryz.func90, rfl, by kernel_rfl⟩
theorem tc91 : Callable Tryz.prog 91 := ⟨_, _, Tryz.func91, rfl, by kernel_rfl⟩
theorem tc92 : Callable Tryz.prog 92 := ⟨_, _, Tryz.func92, rfl, by kernel_rfl⟩
theorem tc93 : Callable Tryz.prog 93 := ⟨_, _, Tryz.func93, rfl, by kernel_rfl⟩
theorem tc94 : Callable Tryz.prog 94 := ⟨_, _, Tryz.func94, rfl, by kernel_rfl⟩
theorem tc95 : Callable Tryz.prog 95 := ⟨_, _, Tryz.func95, rfl, by kernel_rfl⟩
theorem tc96 : Callable Tryz.prog 96 := ⟨_, _, Tryz.func96, rfl, by kernel_rfl⟩
theorem tc97 : Callable Tryz.prog 97 := ⟨_, _, Tryz.func97, rfl, by kernel_rfl⟩
theorem tc98 : Callable Tryz.prog 98 := ⟨_, _, Tryz.func98, rfl, by kernel_rfl⟩
theorem tc99 : Callable Tryz.prog 99 := ⟨_, _, Tryz.func99, rfl, by kernel_rfl⟩
theorem eqv24 (x y : S_api_Stamp) : EqV Tryz.prog 2 24 (S_api_Stamp.enc x) (S_api_Stamp.enc y) (S_api_Stamp.eqb x y) := eqv_st Tryz.underlying24 Tryz.stoodInHeld24 (eqf_cons (k' := 1) (by decide) ts3 rfl rfl (eqv_int (t := 3) Tryz.underlying3) (by decide) (eqf_cons (k' := 1) (by decide) ts3 rfl rfl (eqv_int (t := 3) Tryz.underlying3) (by decide) (eqf_up eqf_nil (Nat.zero_le _))))
theorem eq24 (x y : S_api_Stamp) : BinR Tryz.prog .eql 24 (S_api_Stamp.enc x) (S_api_Stamp.enc y) (.bool (S_api_Stamp.eqb x y)) := bin_aeql Tryz.eqGuardType24 (eqv24 x y) (by decide)
theorem eqn24 (x y : S_api_Stamp) : BinR Tryz.prog .neq 24 (S_api_Stamp.enc x) (S_api_Stamp.enc y) (.bool (!(S_api_Stamp.eqb x y))) := bin_aneq Tryz.eqGuardType24 (eqv24 x y) (by decide)
theorem eqv26 (x y : A8 Int) : EqV Tryz.prog 2 26 ((A8.enc .i64) x) ((A8.enc .i64) y) (A8.eqb x y) := eqv_a8 Tryz.underlying26 Tryz.underlying3 (by kernel_rfl) (by kernel_rfl) ts3
theorem eq26 (x y : A8 Int) : BinR Tryz.prog .eql 26 ((A8.enc .i64) x) ((A8.enc .i64) y) (.bool (A8.eqb x y)) := bin_aeql Tryz.eqGuardType26 (eqv26 x y) (by decide)
theorem eqn26 (x y : A8 Int) : BinR Tryz.prog .neq 26 ((A8.enc .i64) x) ((A8.enc .i64) y) (.bool (!(A8.eqb x y))) := bin_aneq Tryz.eqGuardType26 (eqv26 x y) (by decide)
theorem ts48 : TyS Tryz.prog 48 1 false := tyS Tryz.underlying48 (by kernel_rfl)
theorem ts24 : TyS Tryz.prog 24 2 true := tyS Tryz.underlying24 (by kernel_rfl)
theorem eqv50 (x y : S_api_Attr) : EqV Tryz.prog 3 50 (S_api_Attr.enc x) (S_api_Attr.enc y) (S_api_Attr.eqb x y) := eqv_st Tryz.underlying50 Tryz.stoodInHeld50 (eqf_cons (k' := 2) (by decide) ts24 rfl rfl (eqv24 x.At y.At) (by decide) (eqf_cons (k' := 2) (by decide) ts3 rfl rfl (eqv_int (t := 3) Tryz.underlying3) (by decide) (eqf_cons (k' := 2) (by decide) ts48 rfl rfl (eqv_int (t := 48) Tryz.underlying48) (by decide) (eqf_up eqf_nil (Nat.zero_le _)))))
theorem eq50 (x y : S_api_Attr) : BinR Tryz.prog .eql 50 (S_api_Attr.enc x) (S_api_Attr.enc y) (.bool (S_api_Attr.eqb x y)) := bin_aeql Tryz.eqGuardType50 (eqv50 x y) (by decide)
theorem eqn50 (x y : S_api_Attr) : BinR Tryz.prog .neq 50 (S_api_Attr.enc x) (S_api_Attr.enc y) (.bool (!(S_api_Attr.eqb x y))) := bin_aneq Tryz.eqGuardType50 (eqv50 x y) (by decide)
theorem eqv52 (x y : S_api_Size) : EqV Tryz.prog 3 52 (S_api_Size.enc x) (S_api_Size.enc y) (S_api_Size.eqb x y) := eqv_st Tryz.underlying52 Tryz.stoodInHeld52 (eqf_cons (k' := 2) (by decide) ts24 rfl rfl (eqv24 x.At y.At) (by decide) (eqf_cons (k' := 2) (by decide) ts3 rfl rfl (eqv_int (t := 3) Tryz.underlying3) (by decide) (eqf_up eqf_nil (Nat.zero_le _))))
theorem eq52 (x y : S_api_Size) : BinR Tryz.prog .eql 52 (S_api_Size.enc x) (S_api_Size.enc y) (.bool (S_api_Size.eqb x y)) := bin_aeql Tryz.eqGuardType52 (eqv52 x y) (by decide)
theorem eqn52 (x y : S_api_Size) : BinR Tryz.prog .neq 52 (S_api_Size.enc x) (S_api_Size.enc y) (.bool (!(S_api_Size.eqb x y))) := bin_aneq Tryz.eqGuardType52 (eqv52 x y) (by decide)
theorem ts26 : TyS Tryz.prog 26 8 true := tyS Tryz.underlying26 (by kernel_rfl)
theorem ts9 : TyS Tryz.prog 9 1 false := tyS Tryz.underlying9 (by kernel_rfl)
theorem eqv58 (x y : S_api_Link) : EqV Tryz.prog 3 58 (S_api_Link.enc x) (S_api_Link.enc y) (S_api_Link.eqb x y) := eqv_st Tryz.underlying58 Tryz.stoodInHeld58 (eqf_cons (k' := 2) (by decide) ts24 rfl rfl (eqv24 x.Id y.Id) (by decide) (eqf_cons (k' := 2) (by decide) ts24 rfl rfl (eqv24 x.Node y.Node) (by decide) (eqf_cons (k' := 2) (by decide) ts24 rfl rfl (eqv24 x.At y.At) (by decide) (eqf_cons (k' := 2) (by decide) ts24 rfl rfl (eqv24 x.Parent y.Parent) (by decide) (eqf_cons (k' := 2) (by decide) ts9 rfl rfl (eqv_str (t := 9) Tryz.underlying9) (by decide) (eqf_cons (k' := 2) (by decide) ts26 rfl rfl (eqv26 x.Alive y.Alive) (by decide) (eqf_cons (k' := 2) (by decide) ts26 rfl rfl (eqv26 x.Dead y.Dead) (by decide) (eqf_up eqf_nil (Nat.zero_le _)))))))))
theorem eq58 (x y : S_api_Link) : BinR Tryz.prog .eql 58 (S_api_Link.enc x) (S_api_Link.enc y) (.bool (S_api_Link.eqb x y)) := bin_aeql Tryz.eqGuardType58 (eqv58 x y) (by decide)
theorem eqn58 (x y : S_api_Link) : BinR Tryz.prog .neq 58 (S_api_Link.enc x) (S_api_Link.enc y) (.bool (!(S_api_Link.eqb x y))) := bin_aneq Tryz.eqGuardType58 (eqv58 x y) (by decide)
theorem eqv73 (x y : S_api_Piece) : EqV Tryz.prog 3 73 (S_api_Piece.enc x) (S_api_Piece.enc y) (S_api_Piece.eqb x y) := eqv_st Tryz.underlying73 Tryz.stoodInHeld73 (eqf_cons (k' := 2) (by decide) ts3 rfl rfl (eqv_int (t := 3) Tryz.underlying3) (by decide) (eqf_cons (k' := 2) (by decide) ts24 rfl rfl (eqv24 x.At y.At) (by decide) (eqf_cons (k' := 2) (by decide) ts9 rfl rfl (eqv_str (t := 9) Tryz.underlying9) (by decide) (eqf_up eqf_nil (Nat.zero_le _)))))
theorem eq73 (x y : S_api_Piece) : BinR Tryz.prog .eql 73 (S_api_Piece.enc x) (S_api_Piece.enc y) (.bool (S_api_Piece.eqb x y)) := bin_aeql Tryz.eqGuardType73 (eqv73 x y) (by decide)
theorem eqn73 (x y : S_api_Piece) : BinR Tryz.prog .neq 73 (S_api_Piece.enc x) (S_api_Piece.enc y) (.bool (!(S_api_Piece.eqb x y))) := bin_aneq Tryz.eqGuardType73 (eqv73 x y) (by decide)
theorem ts4 : TyS Tryz.prog 4 1 false := tyS Tryz.underlying4 (by kernel_rfl)
theorem eqv75 (x y : S_api_Xattr) : EqV Tryz.prog 3 75 (S_api_Xattr.enc x) (S_api_Xattr.enc y) (S_api_Xattr.eqb x y) := eqv_st Tryz.underlying75 Tryz.stoodInHeld75 (eqf_cons (k' := 2) (by decide) ts9 rfl rfl (eqv_str (t := 9) Tryz.underlying9) (by decide) (eqf_cons (k' := 2) (by decide) ts24 rfl rfl (eqv24 x.At y.At) (by decide) (eqf_cons (k' := 2) (by decide) ts9 rfl rfl (eqv_str (t := 9) Tryz.underlying9) (by decide) (eqf_cons (k' := 2) (by decide) ts4 rfl rfl (eqv_bool (t := 4) Tryz.underlying4) (by decide) (eqf_up eqf_nil (Nat.zero_le _))))))
theorem eq75 (x y : S_api_Xattr) : BinR Tryz.prog .eql 75 (S_api_Xattr.enc x) (S_api_Xattr.enc y) (.bool (S_api_Xattr.eqb x y)) := bin_aeql Tryz.eqGuardType75 (eqv75 x y) (by decide)
theorem eqn75 (x y : S_api_Xattr) : BinR Tryz.prog .neq 75 (S_api_Xattr.enc x) (S_api_Xattr.enc y) (.bool (!(S_api_Xattr.eqb x y))) := bin_aneq Tryz.eqGuardType75 (eqv75 x y) (by decide)
theorem fa24_0 : FA Tryz.prog 24 0 0 := fa_mk Tryz.underlying24 rfl rfl ts3
theorem fa24_1 : FA Tryz.prog 24 1 1 := fa_mk Tryz.underlying24 rfl rfl ts3
theorem fa30_0 : FA Tryz.prog 30 0 0 := fa_mk Tryz.underlying30 rfl rfl ts26
theorem ts27 : TyS Tryz.prog 27 1 false := tyS Tryz.underlying27 (by kernel_rfl)
theorem fa30_1 : FA Tryz.prog 30 1 8 := fa_mk Tryz.underlying30 rfl rfl ts27
theorem ts28 : TyS Tryz.prog 28 1 false := tyS Tryz.underlying28 (by kernel_rfl)
theorem fa30_2 : FA Tryz.prog 30 2 9 := fa_mk Tryz.underlying30 rfl rfl ts28
theorem fa32_0 : FA Tryz.prog 32 0 0 := fa_mk Tryz.underlying32 rfl rfl ts24
theorem fa32_2 : FA Tryz.prog 32 2 3 := fa_mk Tryz.underlying32 rfl rfl ts26
theorem ts30 : TyS Tryz.prog 30 10 true := tyS Tryz.underlying30 (by kernel_rfl)
theorem fa32_3 : FA Tryz.prog 32 3 11 := fa_mk Tryz.underlying32 rfl rfl ts30
theorem fa50_0 : FA Tryz.prog 50 0 0 := fa_mk Tryz.underlying50 rfl rfl ts24
theorem fa50_1 : FA Tryz.prog 50 1 2 := fa_mk Tryz.underlying50 rfl rfl ts3
theorem fa50_2 : FA Tryz.prog 50 2 3 := fa_mk Tryz.underlying50 rfl rfl ts48
theorem fa52_0 : FA Tryz.prog 52 0 0 := fa_mk Tryz.underlying52 rfl rfl ts24
theorem fa52_1 : FA Tryz.prog 52 1 2 := fa_mk Tryz.underlying52 rfl rfl ts3
theorem fa56_0 : FA Tryz.prog 56 0 0 := fa_mk Tryz.underlying56 rfl rfl ts24
theorem fa56_1 : FA Tryz.prog 56 1 2 := fa_mk Tryz.underlying56 rfl rfl ts3
theorem fa56_2 : FA Tryz.prog 56 2 3 := fa_mk Tryz.underlying56 rfl rfl ts9
theorem ts50 : TyS Tryz.prog 50 4 true := tyS Tryz.underlying50 (by kernel_rfl)
theorem fa56_3 : FA Tryz.prog 56 3 4 := fa_mk Tryz.underlying56 rfl rfl ts50
theorem ts52 : TyS Tryz.prog 52 3 true := tyS Tryz.underlying52 (by kernel_rfl)
theorem fa56_4 : FA Tryz.prog 56 4 8 := fa_mk Tryz.underlying56 rfl rfl ts52
theorem ts53 : TyS Tryz.prog 53 1 false := tyS Tryz.underlying53 (by kernel_rfl)
theorem fa56_5 : FA Tryz.prog 56 5 11 := fa_mk Tryz.underlying56 rfl rfl ts53
theorem ts54 : TyS Tryz.prog 54 1 false := tyS Tryz.underlying54 (by kernel_rfl)
theorem fa56_6 : FA Tryz.prog 56 6 12 := fa_mk Tryz.underlying56 rfl rfl ts54
theorem fa58_0 : FA Tryz.prog 58 0 0 := fa_mk Tryz.underlying58 rfl rfl ts24
theorem fa58_1 : FA Tryz.prog 58 1 2 := fa_mk Tryz.underlying58 rfl rfl ts24
theorem fa58_2 : FA Tryz.prog 58 2 4 := fa_mk Tryz.underlying58 rfl rfl ts24
theorem fa58_3 : FA Tryz.prog 58 3 6 := fa_mk Tryz.underlying58 rfl rfl ts24
theorem fa58_4 : FA Tryz.prog 58 4 8 := fa_mk Tryz.underlying58 rfl rfl ts9
theorem fa58_5 : FA Tryz.prog 58 5 9 := fa_mk Tryz.underlying58 rfl rfl ts26
theorem fa58_6 : FA Tryz.prog 58 6 17 := fa_mk Tryz.underlying58 rfl rfl ts26
theorem fa73_0 : FA Tryz.prog 73 0 0 := fa_mk Tryz.underlying73 rfl rfl ts3
theorem fa73_1 : FA Tryz.prog 73 1 1 := fa_mk Tryz.underlying73 rfl rfl ts24
theorem fa73_2 : FA Tryz.prog 73 2 3 := fa_mk Tryz.underlying73 rfl rfl ts9
theorem fa75_0 : FA Tryz.prog 75 0 0 := fa_mk Tryz.underlying75 rfl rfl ts9
theorem fa75_1 : FA Tryz.prog 75 1 1 := fa_mk Tryz.underlying75 rfl rfl ts24
theorem fa75_2 : FA Tryz.prog 75 2 3 := fa_mk Tryz.underlying75 rfl rfl ts9
theorem fa75_3 : FA Tryz.prog 75 3 4 := fa_mk Tryz.underlying75 rfl rfl ts4
theorem ti32 : TyI Tryz.prog 32 200 := tyI (by kernel_rfl)
theorem ti56 : TyI Tryz.prog 56 144 := tyI (by kernel_rfl)
theorem ti58 : TyI Tryz.prog 58 208 := tyI (by kernel_rfl)
theorem ti73 : TyI Tryz.prog 73 40 := tyI (by kernel_rfl)
theorem ti75 : TyI Tryz.prog 75 56 := tyI (by kernel_rfl)
theorem tz24 : TyZ Tryz.prog 24 (S_api_Stamp.enc (S_api_Stamp.mk 0 0)) := tyZ (by kernel_rfl)
theorem pl24 : BL Tryz.prog 24 (S_api_Stamp.cells (S_api_Stamp.mk 0 0)) [(0, 1), (1, 1)] := ⟨_, _, tz24, rfl, Tryz.underlying24, (places_cons ts3 (places_cons ts3 places_nil))⟩
theorem tz30 : TyZ Tryz.prog 30 (S_api_State.enc (S_api_State.mk (A8.mk 0 0 0 0 0 0 0 0) Sl.nil Sl.nil)) := tyZ (by kernel_rfl)
theorem pl30 : BL Tryz.prog 30 (S_api_State.cells (S_api_State.mk (A8.mk 0 0 0 0 0 0 0 0) Sl.nil Sl.nil)) [(0, 8), (8, 1), (9, 1)] := ⟨_, _, tz30, rfl, Tryz.underlying30, (places_cons ts26 (places_cons ts27 (places_cons ts28 places_nil)))⟩
theorem tz32 : TyZ Tryz.prog 32 (S_api_Event.enc (S_api_Event.mk (S_api_Stamp.mk 0 0) 0 (A8.mk 0 0 0 0 0 0 0 0) (S_api_State.mk (A8.mk 0 0 0 0 0 0 0 0) Sl.nil Sl.nil))) := tyZ (by kernel_rfl)
theorem pl32 : BL Tryz.prog 32 (S_api_Event.cells (S_api_Event.mk (S_api_Stamp.mk 0 0) 0 (A8.mk 0 0 0 0 0 0 0 0) (S_api_State.mk (A8.mk 0 0 0 0 0 0 0 0) Sl.nil Sl.nil))) [(0, 2), (2, 1), (3, 8), (11, 10)] := ⟨_, _, tz32, rfl, Tryz.underlying32, (places_cons ts24 (places_cons ts3 (places_cons ts26 (places_cons ts30 places_nil))))⟩
theorem tz50 : TyZ Tryz.prog 50 (S_api_Attr.enc (S_api_Attr.mk (S_api_Stamp.mk 0 0) 0 0)) := tyZ (by kernel_rfl)
theorem pl50 : BL Tryz.prog 50 (S_api_Attr.cells (S_api_Attr.mk (S_api_Stamp.mk 0 0) 0 0)) [(0, 2), (2, 1), (3, 1)] := ⟨_, _, tz50, rfl, Tryz.underlying50, (places_cons ts24 (places_cons ts3 (places_cons ts48 places_nil)))⟩
theorem tz56 : TyZ Tryz.prog 56 (S_api_Inode.enc (S_api_Inode.mk (S_api_Stamp.mk 0 0) 0 [] (S_api_Attr.mk (S_api_Stamp.mk 0 0) 0 0) (S_api_Size.mk (S_api_Stamp.mk 0 0) 0) Sl.nil Sl.nil)) := tyZ (by kernel_rfl)
theorem pl56 : BL Tryz.prog 56 (S_api_Inode.cells (S_api_Inode.mk (S_api_Stamp.mk 0 0) 0 [] (S_api_Attr.mk (S_api_Stamp.mk 0 0) 0 0) (S_api_Size.mk (S_api_Stamp.mk 0 0) 0) Sl.nil Sl.nil)) [(0, 2), (2, 1), (3, 1), (4, 4), (8, 3), (11, 1), (12, 1)] := ⟨_, _, tz56, rfl, Tryz.underlying56, (places_cons ts24 (places_cons ts3 (places_cons ts9 (places_cons ts50 (places_cons ts52 (places_cons ts53 (places_cons ts54 places_nil)))))))⟩
theorem ts22 : TyS Tryz.prog 22 1 false := tyS Tryz.underlying22 (by kernel_rfl)
theorem ts32 : TyS Tryz.prog 32 21 true := tyS Tryz.underlying32 (by kernel_rfl)
theorem ts56 : TyS Tryz.prog 56 13 true := tyS Tryz.underlying56 (by kernel_rfl)
theorem ts58 : TyS Tryz.prog 58 25 true := tyS Tryz.underlying58 (by kernel_rfl)
theorem ts73 : TyS Tryz.prog 73 4 true := tyS Tryz.underlying73 (by kernel_rfl)
theorem ts75 : TyS Tryz.prog 75 5 true := tyS Tryz.underlying75 (by kernel_rfl)
theorem tz22 : TyZ Tryz.prog 22 (Sl.enc Sl.nil) := tyZ (by kernel_rfl)
theorem tz27 : TyZ Tryz.prog 27 (Sl.enc Sl.nil) := tyZ (by kernel_rfl)
theorem tz28 : TyZ Tryz.prog 28 (Sl.enc Sl.nil) := tyZ (by kernel_rfl)
theorem tz3 : TyZ Tryz.prog 3 (.int .i64 0) := tyZ (by kernel_rfl)
theorem tz52 : TyZ Tryz.prog 52 (S_api_Size.enc (S_api_Size.mk (S_api_Stamp.mk 0 0) 0)) := tyZ (by kernel_rfl)
theorem tz53 : TyZ Tryz.prog 53 (Sl.enc Sl.nil) := tyZ (by kernel_rfl)
theorem tz54 : TyZ Tryz.prog 54 (Sl.enc Sl.nil) := tyZ (by kernel_rfl)
theorem tz58 : TyZ Tryz.prog 58 (S_api_Link.enc (S_api_Link.mk (S_api_Stamp.mk 0 0) (S_api_Stamp.mk 0 0) (S_api_Stamp.mk 0 0) (S_api_Stamp.mk 0 0) [] (A8.mk 0 0 0 0 0 0 0 0) (A8.mk 0 0 0 0 0 0 0 0))) := tyZ (by kernel_rfl)
theorem tz73 : TyZ Tryz.prog 73 (S_api_Piece.enc (S_api_Piece.mk 0 (S_api_Stamp.mk 0 0) [])) := tyZ (by kernel_rfl)
theorem tz75 : TyZ Tryz.prog 75 (S_api_Xattr.enc (S_api_Xattr.mk [] (S_api_Stamp.mk 0 0) [] false)) := tyZ (by kernel_rfl)
end Go.Proofs.L
namespace Go
namespace Lf
/-! ## how heaps stand to each other -/
/-- all but the blocks in W is as it was; new blocks may be there -/
structure Ag (W : List Nat) (h h' : Hp) : Prop where
  size : h.size ≤ h'.size
  same : ∀ i, i < h.size → i ∉ W → h'[i]? = h[i]?
abbrev Ext (h h' : Hp) : Prop := Ag [] h h'
theorem Ag.refl {W : List Nat} {h : Hp} : Ag W h h := ⟨Nat.le_refl _, fun _ _ _ => rfl⟩
theorem Ag.trans {W : List Nat} {a b c : Hp} (x : Ag W a b) (y : Ag W b c) : Ag W a c :=
  ⟨Nat.le_trans x.size y.size, fun i hi hw => by rw [y.same i (Nat.lt_of_lt_of_le hi x.size) hw, x.same i hi hw]⟩
theorem Ag.weak {W W' : List Nat} {a b : Hp} (x : Ag W a b) (hs : ∀ i ∈ W, i ∈ W') : Ag W' a b := ⟨x.size, fun i hi hw => x.same i hi fun h => hw (hs i h)⟩
theorem Ag.of {W : List Nat} {a b : Hp} (x : Ext a b) : Ag W a b := x.weak fun _ h => by cases h
/-- what changes lies behind the first heap -/
theorem Ag.over {W : List Nat} {a b c : Hp} (x : Ext a b) (y : Ag W b c) (hw : ∀ i ∈ W, a.size ≤ i) : Ext a c :=
  ⟨Nat.le_trans x.size y.size, fun i hi _ => by
    rw [y.same i (Nat.lt_of_lt_of_le hi x.size) (fun h => by have := hw i h; omega), x.same i hi (by simp)]⟩
theorem Ag.push {W : List Nat} {h : Hp} {o : Obj} : Ag W h (h.push o) := ⟨by simp, fun i hi _ => by rw [Array.getElem?_push, if_neg (by omega)]⟩
theorem Ag.set {h : Hp} {b : Nat} {o : Obj} : Ag [b] h (h.setIfInBounds b o) :=
  ⟨by simp, fun i _ hw => by rw [Array.getElem?_setIfInBounds_ne (by simpa [eq_comm] using hw)]⟩
theorem cell_lt {h : Hp} {a : Addr} {v : Value} (hc : Hp.cell? h a = some v) : a.block < h.size := by
  unfold Hp.cell? at hc
  split at hc
  · rename_i e; exact (Array.getElem?_eq_some_iff.1 e).1
  · cases hc
theorem cell_ag {W : List Nat} {h h' : Hp} {a : Addr} {v : Value} (hc : Hp.cell? h a = some v) (x : Ag W h h') (hw : a.block ∉ W) : Hp.cell? h' a = some v := by
  have := x.same _ (cell_lt hc) hw
  unfold Hp.cell? at *
  rw [this]; exact hc
theorem row_ag {W : List Nat} {h h' : Hp} {a : Addr} {cs : List Value} (hc : Row h a cs) (x : Ag W h h') (hw : a.block ∉ W) : Row h' a cs :=
  fun i v hi => cell_ag (hc i v hi) x (by rw [add_block]; exact hw)

/-! ## a function's own frame: h0 where it began, bs its boxes, hA since when nothing older has changed -/
structure Fr (h0 : Hp) (bs : List Addr) (hA h : Hp) : Prop where
  e0 : Ext h0 h
  b0 : ∀ b ∈ bs, h0.size ≤ b.block ∧ b.block < h.size
  eA : Ext hA h
variable {h0 hA h h' : Hp} {bs bs' : List Addr}
theorem Fr.start : Fr h [] h h := ⟨.refl, fun _ h => (by cases h), .refl⟩
theorem Fr.ext (f : Fr h0 bs hA h) (e : Ext h h') : Fr h0 bs hA h' := ⟨f.e0.trans e, fun b hb => ⟨(f.b0 b hb).1, Nat.lt_of_lt_of_le (f.b0 b hb).2 e.size⟩, f.eA.trans e⟩
theorem Fr.base (f : Fr h0 bs hA h) : Fr h0 bs h h := ⟨f.e0, f.b0, .refl⟩
theorem Fr.drop (f : Fr h0 bs hA h) (hs : ∀ b ∈ bs', b ∈ bs) : Fr h0 bs' hA h := ⟨f.e0, fun b hb => f.b0 b (hs b hb), f.eA⟩
theorem Fr.ag {W : List Nat} (f : Fr h0 bs hA h) (x : Ag W h h') (hw : ∀ i ∈ W, h0.size ≤ i) : Fr h0 bs h' h' :=
  ⟨f.e0.over x hw, fun b hb => ⟨(f.b0 b hb).1, Nat.lt_of_lt_of_le (f.b0 b hb).2 x.size⟩, .refl⟩
theorem al_ {K : Addr → Hp → Prop} (f : Fr h0 bs hA h) (k : ∀ b h', Fr h0 (b :: bs) hA h' → Ext h h' → hA.size ≤ b.block → b.block = h.size → K b h') : AlX h K := fun o => by
  have e : Ext h (h.push o) := .push
  refine k _ _ ⟨f.e0.trans e, ?_, f.eA.trans e⟩ e f.eA.size rfl
  intro b hb
  rcases List.mem_cons.1 hb with rfl | hb
  · exact ⟨f.e0.size, by simp⟩
  · exact ⟨(f.b0 b hb).1, Nat.lt_of_lt_of_le (f.b0 b hb).2 e.size⟩
theorem alv_ {cs : List Value} {K : Addr → Hp → Prop} (f : Fr h0 bs hA h) (k : ∀ b h', Fr h0 bs hA h' → Ext h h' → Row h' b cs → b.block = h.size → K b h') : Al h cs K := fun T => by
  have e : Ext h (h.push (.cells cs.toArray T)) := .push
  refine k _ _ (f.ext e) e ?_ rfl
  intro i v hi
  rw [add_flat rfl rfl]
  simpa [Hp.cell?] using hi
theorem st_ {b : Addr} {K : Hp → Prop} (f : Fr h0 bs hA h) (hb : b ∈ bs) (hl : hA.size ≤ b.block) (k : ∀ h', Fr h0 bs hA h' → Ag [b.block] h h' → K h') : StX h b K := fun o => by
  have x : Ag [b.block] h (h.setIfInBounds b.block o) := .set
  refine k _ ⟨f.e0.over x (by simpa using (f.b0 b hb).1), fun c hc => by simpa using f.b0 c hc, f.eA.over x (by simpa using hl)⟩ x
theorem st0_ {b : Addr} {K : Hp → Prop} (f : Fr h0 bs hA h) (hb : b ∈ bs) (k : ∀ h', Fr h0 bs h' h' → Ag [b.block] h h' → K h') : StX h b K := fun o => by
  have x : Ag [b.block] h (h.setIfInBounds b.block o) := .set
  exact k _ (f.ag x (by simpa using (f.b0 b hb).1)) x
theorem kp_ {P : Prop} (f : Fr h0 bs hA h) (e : Ext h h') (hs : ∀ b ∈ bs', b ∈ bs) (k : Fr h0 bs hA h' → P) : KpX h h' bs' P :=
  ⟨fun b hb => e.same _ (f.b0 b (hs b hb)).2 (by simp), k (f.ext e)⟩
theorem kpa_ {W : List Nat} {P : Prop} (f : Fr h0 bs hA h) (x : Ag W h h') (hs : ∀ b ∈ bs', b ∈ bs) (hw : ∀ b ∈ bs', b.block ∉ W) (k : P) : KpX h h' bs' P :=
  ⟨fun b hb => x.same _ (f.b0 b (hs b hb)).2 (hw b hb), k⟩
theorem if_ {b : Bool} {A B : Prop} (hA : b = true → A) (hB : b = false → B) : If b A B := by
  cases b
  · exact ⟨fun h => (by cases h), fun _ => hB rfl⟩
  · exact ⟨fun _ => hA rfl, fun h => (by cases h)⟩
/-- a join: what holds there -/
theorem j_ {α : Type} {K : α → Hp → Prop} {B : (α → Hp → Prop) → Prop} (hB : B K) : J K B := ⟨K, fun _ _ h => h, hB⟩
theorem loop_ {σ : Type} {s0 : σ} {body : σ → Hp → (σ → Hp → Prop) → Prop} (I : Nat → σ → Hp → Prop) (m : Nat) (h1 : I m s0 h) (h2 : ∀ m s h, I m s h → body s h (fun s' h' => ∃ m', m' < m ∧ I m' s' h')) : LoopF s0 h body := ⟨I, m, h1, h2⟩
theorem wi {i : Int} (h0 : -2 ^ 63 ≤ i) (h1 : i < 2 ^ 63) : IntKind.wrap .i64 i = i := wrap_id h0 h1

/-! ## rows of elements -/
structure Elt (S : Type) where
  cells : S → List Value
  sz : Nat
  len : ∀ x, (cells x).length = sz
  ones : ∀ x, (cells x).all one = true
def Sl.blk (s : Sl) : List Nat := match s.a with
  | some a => [a.block]
  | none => []
variable {S : Type} {e : Elt S} {s s' : Sl} {l : List S}
/-- what a slice reads as; its blocks meet A -/
def Rows (A : Nat → Prop) (e : Elt S) (h : Hp) (s : Sl) (l : List S) : Prop :=
  s.len = l.length ∧ ∀ i x, l[i]? = some x → ∃ a, s.a = some a ∧ A a.block ∧ Row h (a.add (i * e.sz)) (e.cells x)
theorem Rows.nil {A : Nat → Prop} : Rows A e h Sl.nil [] := ⟨rfl, fun i x hi => by simp at hi⟩
theorem Rows.ag {A : Nat → Prop} {W : List Nat} (r : Rows A e h s l) (x : Ag W h h') (hw : ∀ i ∈ W, ¬ A i) : Rows A e h' s l :=
  ⟨r.1, fun i y hi => by
    obtain ⟨a, h1, h2, h3⟩ := r.2 i y hi
    exact ⟨a, h1, h2, row_ag h3 x (by rw [add_block]; exact fun h => hw _ h h2)⟩⟩
theorem Rows.ext {A : Nat → Prop} (r : Rows A e h s l) (x : Ext h h') : Rows A e h' s l := r.ag x fun _ h => by cases h
theorem Rows.weak {A B : Nat → Prop} (r : Rows A e h s l) (hw : ∀ i, A i → B i) : Rows B e h s l :=
  ⟨r.1, fun i y hi => by
    obtain ⟨a, h1, h2, h3⟩ := r.2 i y hi
    exact ⟨a, h1, hw _ h2, h3⟩⟩
/-- an element of a slice, loaded -/
theorem ixlda {A : Nat → Prop} {i : Int} {K : Addr → S → Prop} (r : Rows A e h s l) {n : Nat} (hi : i = (n : Int)) {x : S} (hx : l[n]? = some x) (k : ∀ p, A p.block → Row h p (e.cells x) → K p x) :
    Ix s i e.sz fun p => LdA e.cells h p fun v => K p v := by
  obtain ⟨a, h1, h2, h3⟩ := r.2 n x hx
  have hl : n < l.length := (List.getElem?_eq_some_iff.1 hx).1
  subst hi
  refine ⟨a, h1, by omega, by rw [r.1]; omega, x, by simpa using h3, k _ (by rw [add_block]; exact h2) (by simpa using h3)⟩
theorem ix_ {A : Nat → Prop} {i : Int} {K : Addr → Prop} (r : Rows A e h s l) {n : Nat} (hi : i = (n : Int)) {x : S} (hx : l[n]? = some x) (k : ∀ p, A p.block → Row h p (e.cells x) → K p) :
    Ix s i e.sz K := by
  obtain ⟨a, h1, h2, h3⟩ := r.2 n x hx
  have hl : n < l.length := (List.getElem?_eq_some_iff.1 hx).1
  subst hi
  exact ⟨a, h1, by omega, by rw [r.1]; omega, k _ (by rw [add_block]; exact h2) (by simpa using h3)⟩
theorem lda_ {x : S} {p : Addr} {K : S → Prop} (r : Row h p (e.cells x)) (k : K x) : LdA e.cells h p K := ⟨x, r, k⟩

/-! ## a slice of one's own, that grows -/
structure Own (e : Elt S) (h : Hp) (s : Sl) (l : List S) : Prop where
  len : s.len = l.length
  arr : (s.a = none ∧ l = [] ∧ s.cap = 0) ∨ ∃ b T rest, s.a = some ⟨b, 0, none⟩ ∧ h[b]? = some (.cells ((l.map e.cells).flatten ++ rest).toArray T) ∧ rest.length = (s.cap - s.len) * e.sz ∧ s.len ≤ s.cap
theorem Own.nil : Own e h Sl.nil [] := ⟨rfl, .inl ⟨rfl, rfl, rfl⟩⟩
theorem Own.ag {W : List Nat} (o : Own e h s l) (x : Ag W h h') (hw : ∀ i ∈ W, i ∉ s.blk) : Own e h' s l :=
  ⟨o.len, o.arr.imp id fun ⟨b, T, rest, h1, h2, h3⟩ => ⟨b, T, rest, h1, by
    rw [x.same b (Array.getElem?_eq_some_iff.1 h2).1 (fun hb => hw b hb (by simp [Sl.blk, h1])), h2], h3⟩⟩
theorem Own.ext (o : Own e h s l) (x : Ext h h') : Own e h' s l := o.ag x fun _ h => by cases h
theorem Own.lt (o : Own e h s l) : ∀ i ∈ s.blk, i < h.size := by
  intro i hi
  rcases o.arr with ⟨h1, _⟩ | ⟨b, T, rest, h1, h2, _⟩
  · simp [Sl.blk, h1] at hi
  · simp [Sl.blk, h1] at hi
    subst hi
    exact (Array.getElem?_eq_some_iff.1 h2).1
theorem flatten_len {l : List S} : ((l.map e.cells).flatten).length = l.length * e.sz := by
  induction l with
  | nil => simp
  | cons x l ih => simp [ih, e.len, Nat.add_mul, Nat.add_comm]
theorem flatten_get {l : List S} {i j : Nat} {x : S} {v : Value} (hx : l[i]? = some x) (hv : (e.cells x)[j]? = some v) : ((l.map e.cells).flatten)[i * e.sz + j]? = some v := by
  induction l generalizing i with
  | nil => simp at hx
  | cons y l ih =>
    have hj : j < e.sz := by rw [← e.len x]; exact (List.getElem?_eq_some_iff.1 hv).1
    cases i with
    | zero =>
      simp only [List.getElem?_cons_zero, Option.some.injEq] at hx
      subst hx
      simp only [List.map_cons, List.flatten_cons, Nat.zero_mul, Nat.zero_add]
      rw [List.getElem?_append_left (by rw [e.len]; exact hj)]
      exact hv
    | succ i =>
      simp only [List.getElem?_cons_succ] at hx
      simp only [List.map_cons, List.flatten_cons]
      rw [List.getElem?_append_right (by rw [e.len, Nat.add_mul]; omega), e.len]
      rw [show (i + 1) * e.sz + j - e.sz = i * e.sz + j by rw [Nat.add_mul]; omega]
      exact ih hx
theorem flat_add (b o i : Nat) : (⟨b, o, none⟩ : Addr).add i = ⟨b, o + i, none⟩ := by
  simp [Addr.add]
  try omega
  try exact fun e => e.symm
theorem Own.rows (o : Own e h s l) : Rows (· ∈ s.blk) e h s l := by
  refine ⟨o.len, fun i x hi => ?_⟩
  rcases o.arr with ⟨_, h1, _⟩ | ⟨b, T, rest, h1, h2, h3, h4⟩
  · simp [h1] at hi
  · refine ⟨_, h1, by simp [Sl.blk, h1], fun j v hj => ?_⟩
    rw [flat_add, flat_add]
    have := flatten_get hi hj
    simp only [Hp.cell?, h2, Option.isSome_none, Bool.false_eq_true, if_false, Nat.zero_add, List.getElem?_toArray]
    rw [List.getElem?_append_left]
    · exact this
    · exact (List.getElem?_eq_some_iff.1 this).1
end Lf
end Go
namespace Go
namespace Lf
theorem growBy_le (need : Nat) : ∀ (d c : Nat), c ≤ 2 * need + 192 → Builtin.growBy need d c ≤ 2 * need + 192
  | 0, c, h => h
  | d + 1, c, h => by
    unfold Builtin.growBy
    split
    · exact h
    · exact growBy_le need d _ (by omega)
theorem ncap_le {need cap : Nat} (h : cap < need) : Builtin.nextslicecap need cap ≤ 2 * need + 192 := by
  unfold Builtin.nextslicecap
  split
  · omega
  · split
    · omega
    · exact growBy_le _ _ _ (by omega)
variable {h0 hA h h' : Hp} {bs bs' : List Addr} {S : Type} {e : Elt S} {s s' src : Sl} {l xs : List S}
theorem ones_all {l : List S} : ∀ v ∈ (l.map e.cells).flatten, one v = true := by
  intro v hv
  obtain ⟨c, hc, hv⟩ := List.mem_flatten.1 hv
  obtain ⟨x, _, rfl⟩ := List.mem_map.1 hc
  exact List.all_eq_true.1 (e.ones x) v hv
theorem rows_cs {A : Nat → Prop} (r : Rows A e h s l) : Cs h s.a (s.len * e.sz) (l.map e.cells).flatten := by
  refine ⟨by rw [flatten_len, r.1], ?_⟩
  cases ha : s.a with
  | none =>
    cases l with
    | nil => simp
    | cons x l => obtain ⟨a, h1, _⟩ := r.2 0 x rfl; rw [ha] at h1; cases h1
  | some a =>
    intro j v hj
    have hjl : j < l.length * e.sz := by rw [← flatten_len]; exact (List.getElem?_eq_some_iff.1 hj).1
    have hsz : 0 < e.sz := by
      rcases Nat.eq_zero_or_pos e.sz with h | h
      · rw [h] at hjl; simp at hjl
      · exact h
    have hq : j / e.sz < l.length := by rw [Nat.div_lt_iff_lt_mul hsz]; exact hjl
    have hm : j % e.sz < e.sz := Nat.mod_lt _ hsz
    have he : j / e.sz * e.sz + j % e.sz = j := by rw [Nat.mul_comm]; exact Nat.div_add_mod j e.sz
    have hx : l[j / e.sz]? = some l[j / e.sz] := by simp [hq]
    have hv : (e.cells l[j / e.sz])[j % e.sz]? = some ((e.cells l[j / e.sz])[j % e.sz]'(by rw [e.len]; exact hm)) := by simp [e.len, hm]
    have := flatten_get hx hv
    rw [he, hj] at this
    obtain ⟨a', h1, _, h3⟩ := r.2 _ _ hx
    rw [ha] at h1; cases h1
    have := h3 _ _ hv
    rw [add_add, he] at this
    rw [this]; simp_all
/-- what an append leaves: only its own block, if any, is touched -/
theorem apps_ {A : Nat → Prop} {by' : Nat} {K : Sl → Hp → Prop} (o : Own e h s l) (r : Rows A e h src xs) (hb : (2 * (l.length + xs.length) + 192) * by' ≤ 2 ^ 48) (hl : l.length + xs.length < 2 ^ 62)
    (k : ∀ s' h', Ag s.blk h h' → Own e h' s' (l ++ xs) → (∀ i ∈ s'.blk, i ∈ s.blk ∨ h.size ≤ i) → K s' h') : AppS h s src e.sz by' K := by
  refine ⟨(xs.map e.cells).flatten, rows_cs r, ones_all, ?_⟩
  have hlen := o.len
  have hxs := r.1
  refine ⟨fun hfit => ?_, fun hgrow => ?_⟩
  · rcases o.arr with ⟨h1, h2, h3⟩ | ⟨b, T, rest, h1, h2, h3, h4⟩
    · rw [h1]
      simp only
      subst h2
      have : xs = [] := by
        rw [h3] at hfit
        have : xs.length = 0 := by omega
        simpa using this
      subst this
      refine k _ _ .refl ⟨by simp [hxs, hlen], .inl ⟨rfl, rfl, h3⟩⟩ (by simp [Sl.blk])
    · rw [h1]
      simp only
      have hlt := (Array.getElem?_eq_some_iff.1 h2).1
      have hfl : (l.map e.cells).flatten.length = s.len * e.sz := by rw [flatten_len, hlen]
      have hxl : (xs.map e.cells).flatten.length = src.len * e.sz := by rw [flatten_len, hxs]
      have hrl : src.len * e.sz ≤ rest.length := by rw [h3]; exact Nat.mul_le_mul_right _ (by omega)
      have hfr : ∀ j, Hp.frozen? h ((⟨b, 0, none⟩ : Addr).add j) = false := fun j => by rw [flat_add]; simp [Hp.frozen?, h2]
      refine ⟨fun j hj => ⟨?_, by rw [add_add]; exact hfr _⟩, ?_⟩
      · rw [add_add, flat_add, Nat.zero_add]
        rw [hxl] at hj
        refine ⟨((l.map e.cells).flatten ++ rest)[s.len * e.sz + j]'(by rw [List.length_append, hfl]; omega), ?_⟩
        simp [Hp.cell?, h2]
      · have hput : put ((l.map e.cells).flatten ++ rest) (s.len * e.sz) (xs.map e.cells).flatten = ((l ++ xs).map e.cells).flatten ++ rest.drop (src.len * e.sz) := by
          have := put_mid (xs.map e.cells).flatten (l.map e.cells).flatten (rest.take (src.len * e.sz)) (rest.drop (src.len * e.sz)) (by rw [List.length_take, hxl]; omega)
          rw [List.take_append_drop, hfl] at this
          rw [this]
          simp
        have hset := setCells_has (b := ⟨b, 0, none⟩) (T := T) rfl rfl (xs.map e.cells).flatten h ((l.map e.cells).flatten ++ rest) (s.len * e.sz) 0 h2
        rw [hset, Nat.add_zero, hput]
        refine k _ _ ?_ ⟨by simp [hlen, hxs], .inr ⟨b, T, rest.drop (src.len * e.sz), rfl, by simp [hlt], ?_, hfit⟩⟩ (by simp [Sl.blk, h1])
        · have : Ag [b] h (h.setIfInBounds b (.cells (((l ++ xs).map e.cells).flatten ++ rest.drop (src.len * e.sz)).toArray T)) := .set
          exact this.weak (by simp [Sl.blk, h1])
        · rw [List.length_drop, h3]
          simp only
          rw [← Nat.sub_mul]
          congr 1
          omega
  · have hn := ncap_le hgrow
    refine ⟨Nat.le_trans (Nat.mul_le_mul_right _ hn) (by rw [hlen, hxs]; exact hb), by omega, (l.map e.cells).flatten, ?_, ?_⟩
    · exact rows_cs o.rows
    · intro T newCap rest hc hr
      refine k _ _ .push ⟨by simp [hlen, hxs], .inr ⟨h.size, T, rest, rfl, by simp, hr, hc⟩⟩ (by simp [Sl.blk])
theorem rows1 {p : Addr} {x : S} (r : Row h p (e.cells x)) : Rows (· = p.block) e h (Sl.mk (some p) 1 1) [x] :=
  ⟨rfl, fun i y hi => by
    cases i with
    | zero => simp at hi; subst hi; exact ⟨p, rfl, rfl, by rw [Nat.zero_mul]; exact r⟩
    | succ i => simp at hi⟩
theorem app1_ {by' : Nat} {p : Addr} {x : S} {K : Sl → Hp → Prop} (o : Own e h s l) (r : Row h p (e.cells x)) (hb : (2 * (l.length + 1) + 192) * by' ≤ 2 ^ 48) (hl : l.length + 1 < 2 ^ 62)
    (k : ∀ s' h', Ag s.blk h h' → Own e h' s' (l ++ [x]) → (∀ i ∈ s'.blk, i ∈ s.blk ∨ h.size ≤ i) → K s' h') : AppS h s (Sl.mk (some p) 1 1) e.sz by' K :=
  apps_ o (rows1 r) hb hl k
end Lf
end Go
namespace Go
namespace Lf
open Go.ChangeShapes Go.WideShapes Go.ChangeAt Go.RowKit Go.WideElems
/-! ## from a walk to a row: what came in reads as it did -/
theorem same_ext {W W' : World} (hx : Ext W.heap W'.heap) {p : MemPlace} (hp : p.block < W.heap.size) : W.sameAt W' p := by
  cases p with
  | cell b off =>
    have : W'.heap[b]? = W.heap[b]? := hx.same b hp (by simp)
    simp only [World.sameAt, World.cell?, this]
  | map b => exact hx.same b hp (by simp)
theorem kept_ext {W W' : World} (hx : Ext W.heap W'.heap) (ho : W'.os = W.os) (hp : W'.output = W.output) (may : MemPlace → Prop) : W.keptBut W' may := by
  refine ⟨ho, hp, fun i hi => ?_⟩
  have h := hx.same i hi (by simp)
  rw [h]
  cases W.heap[i]? with
  | none => trivial
  | some o => cases o <;> simp
theorem trodAll_stays {P : Program} {H : Type} {enc : TypeId × Value → H} (hl : laidOutB P = true) {W W' : World} (hx : Ext W.heap W'.heap) {sp' : Nat → Bool} : ∀ {ts : List TypeId} {vs : List Value} {ds : List (DataW H)} {ps : List MemPlace}, (∀ t ∈ ts, P.readableRec t = true ∧ t < P.types.size) →
    DataW.TrodAll enc P W 0 (fun _ => true) true ts vs ds ps → (∀ p ∈ ps, p.block < W.heap.size) → (∀ p ∈ ps, sp' p.block = true) → DataW.TrodAll enc P W' 0 sp' true ts vs ds ps
  | [], [], [], ps, _, h, _, _ => h
  | t :: ts, v :: vs, d :: ds, ps, ht, h, hp, hs => by
    obtain ⟨p, q, h1, h2, rfl⟩ := h
    exact ⟨p, q, Trod_stays hl (ht t (by simp)).1 (ht t (by simp)).2 h1 (fun x hx' => same_ext hx (hp x (by simp [hx']))) fun x hx' => hs x (by simp [hx']),
      trodAll_stays hl hx (fun t h => ht t (by simp [h])) h2 (fun x hx' => hp x (by simp [hx'])) (fun x hx' => hs x (by simp [hx'])), rfl⟩
  | [], [], _ :: _, _, _, h, _, _ => by simp [DataW.TrodAll] at h
  | [], _ :: _, _, _, _, h, _, _ => by simp [DataW.TrodAll] at h
  | _ :: _, [], _, _, _, h, _, _ => by simp [DataW.TrodAll] at h
  | _ :: _, _ :: _, [], _, _, h, _, _ => by simp [DataW.TrodAll] at h
theorem post_law {P : Program} {H : Type} {enc : TypeId × Value → H} {f : Func} {s : ChangeSpec} {apart fresh handsOn : Bool} {W W' : World} {args : Array Value} {ds gs : List (DataW H)} {before : List MemPlace} {tb : TypeId}
    (hl : laidOutB P = true) (ht : ∀ t ∈ f.params.toList, P.readableRec t = true ∧ t < P.types.size) (hv : s.vars = []) (hW : DataW.Whole enc P f.params.toList s.vars apart W args.toList ds gs before)
    (hfn : s.fn H (ds ++ gs) = { results := [.lit (.bool true)], args := ds }) (hrt : f.resultTypes = #[tb]) (hb : P.underlying tb = some .bool)
    (hx : Ext W.heap W'.heap) (ho : W'.os = W.os) (hp : W'.output = W.output) : s.post enc P f apart fresh handsOn false W args (.bool true) W' := by
  have hlt := hW.lt
  obtain ⟨p, q, hA, hV, hps, hz, hn⟩ := id hW
  rw [hv] at hV
  obtain ⟨rfl, rfl⟩ := trodVars_none hV
  rw [List.append_nil] at hps
  subst hps
  refine ⟨ds, [], before, [], before, [], hW, ?_, ?_, ?_, kept_ext hx ho hp _, fun h => by cases h⟩
  · rw [hfn, hrt]
    exact trodAll_mk1 ⟨1, by simp [DataW.trod, hb, Value.cells]⟩
  · rw [hfn]
    exact trodAll_stays hl hx ht hA hlt fun x hx' => by simpa using hlt x hx'
  · rw [hfn, hv]; rfl
/-! ## reading what came in -/
def Rd (P : Program) (t : TypeId) {S : Type} (cells : S → List Value) (R : Hp → S → Prop) : Prop :=
  ∀ {H : Type} (enc : TypeId × Value → H) (w : World) (n : Nat) (cs : List Value) (y : DataW H × List MemPlace), DataW.trod enc P w 0 (fun _ => true) true n t cs = some y → ∃ x, cs = cells x ∧ R w.heap x
variable {P : Program} {t e : TypeId}
def wfI (k : IntKind) (n : Int) : Prop := (Lit.int k n).wf = true
theorem rd_int {k : IntKind} (ht : P.underlying t = some (.int k)) : Rd P t (fun n : Int => [.int k n]) (fun _ n => wfI k n) := fun enc w n cs y h => by
  obtain ⟨m, rfl, _, h2⟩ := DataW.trod_int ht h
  exact ⟨m, rfl, h2⟩
theorem rd_bool (ht : P.underlying t = some .bool) : Rd P t (fun b : Bool => [.bool b]) (fun _ _ => True) := fun enc w n cs y h => by
  obtain ⟨b, rfl, _⟩ := DataW.trod_bool ht h
  exact ⟨b, rfl, trivial⟩
theorem rd_str (ht : P.underlying t = some .string) : Rd P t (fun s : Str => [vS s]) (fun _ s => s.length ≤ maxLen) := fun enc w n cs y h => by
  obtain ⟨s, rfl, _, h2⟩ := DataW.trod_string ht h
  obtain ⟨⟨l⟩⟩ := s
  exact ⟨l, rfl, h2⟩
def RdSl {S : Type} (El : Elt S) (R : Hp → S → Prop) (h : Hp) (s : Sl) : Prop := s.cap ≤ maxLen ∧ s.len ≤ s.cap ∧ ∃ l, Rows (· < h.size) El h s l ∧ ∀ x ∈ l, R h x
theorem cells_row {w : World} {a : Addr} {n : Nat} {cs : List Value} (h : w.cells? 0 a n = some cs) : cs.length = n ∧ Row w.heap a cs := by
  simp only [World.cells?, Nat.zero_le, if_true] at h
  have hl := mapM_some_length h
  refine ⟨by simpa using hl, fun i v hi => ?_⟩
  have hin : i < n := by rw [List.length_range] at hl; rw [← hl]; exact (List.getElem?_eq_some_iff.1 hi).1
  have := mapM_some_get h i i (by simp [hin])
  rw [hi] at this
  exact this
theorem rd_slice {S : Type} {El : Elt S} {R : Hp → S → Prop} (ht : P.underlying t = some (.slice e)) (hr : Rd P e El.cells R) (hc : P.cellsOf e = El.sz) (hpos : 0 < El.sz) : Rd P t (fun s : Sl => [Sl.enc s]) (RdSl El R) := fun enc w n cs y h => by
  rcases DataW.trod_slice ht h with ⟨rfl, _⟩ | ⟨a, len, cap, elems, rest, m, _, rfl, _, _, h1, h2, h3, h4, _, _⟩
  · exact ⟨Sl.nil, rfl, by simp [Sl.nil, maxLen], Nat.le_refl _, [], Rows.nil, by simp⟩
  · have key : ∀ i, i < len → ∃ x, Row w.heap (a.add (i * El.sz)) (El.cells x) ∧ R w.heap x := fun i hi => by
      have h5 := h4 i hi
      have hi' : i < elems.length := by omega
      rw [List.getElem?_eq_getElem hi', Option.bind_eq_some_iff] at h5
      obtain ⟨ds, h6, h7⟩ := h5
      rw [hc] at h6
      obtain ⟨_, hr6⟩ := cells_row h6
      obtain ⟨x, rfl, hx⟩ := hr enc w m ds _ h7
      exact ⟨x, hr6, hx⟩
    have list : ∀ n, n ≤ len → ∃ l : List S, l.length = n ∧ ∀ i x, l[i]? = some x → Row w.heap (a.add (i * El.sz)) (El.cells x) ∧ R w.heap x := by
      intro n
      induction n with
      | zero => exact fun _ => ⟨[], rfl, by simp⟩
      | succ n ih =>
        intro hn
        obtain ⟨l, hl, hr⟩ := ih (by omega)
        obtain ⟨x, hx⟩ := key n (by omega)
        refine ⟨l ++ [x], by simp [hl], fun i y hi => ?_⟩
        rcases Nat.lt_or_ge i n with hlt | hge
        · exact hr i y (by rwa [List.getElem?_append_left (by omega)] at hi)
        · rw [List.getElem?_append_right (by omega)] at hi
          have : i = n := by
            have := (List.getElem?_eq_some_iff.1 hi).1
            simp at this; omega
          subst this
          simp [hl] at hi
          subst hi
          exact hx
    obtain ⟨l, hl, hr⟩ := list len (Nat.le_refl _)
    refine ⟨Sl.mk (some a) len cap, rfl, h2, h1, l, ⟨hl.symm, fun i x hi => ⟨a, rfl, ?_, (hr i x hi).1⟩⟩, fun x hx => ?_⟩
    · have := (hr i x hi).1
      have hlen := El.len x
      have : (El.cells x)[0]? = some ((El.cells x)[0]'(by omega)) := by simp
      have := cell_lt ((hr i x hi).1 0 _ this)
      simpa [add_block] using this
    · obtain ⟨i, hi⟩ := List.mem_iff_getElem?.1 hx
      exact (hr i x hi).2
theorem rd_struct {S : Type} {cells : S → List Value} {R : Hp → S → Prop} {fs : Array Field} {N : Nat} (ht : P.underlying t = some (.struct fs)) (hN : P.cellsOf t = N)
    (mk : ∀ {H : Type} (enc : TypeId × Value → H) (w : World) (cs : List Value), cs.length = N → (∀ (i : Nat) (f : Field), fs[i]? = some f → ∃ n y, DataW.trod enc P w 0 (fun _ => true) true n f.type ((cs.drop f.offset).take (P.cellsOf f.type)) = some y) → ∃ x, cs = cells x ∧ R w.heap x) : Rd P t cells R := fun enc w n cs y h => by
  obtain ⟨xs, m, _, _, h1, h2, h3⟩ := DataW.trod_struct ht h
  refine mk enc w cs (by rw [h1, hN]) fun i f hf => ⟨m, ?_⟩
  have := h3 i f hf
  have hi : i < xs.length := by rw [h2]; exact (Array.getElem?_eq_some_iff.1 hf).1
  rw [List.getElem?_eq_getElem hi] at this
  exact ⟨_, this⟩
theorem rd_A8 {k : IntKind} (ht : P.underlying t = some (.array 8 e)) (he : P.underlying e = some (.int k)) (hc : P.cellsOf e = 1) (hN : P.cellsOf t = 8) : Rd P t (A8.cells k) (fun _ x => wfI k x.a0 ∧ wfI k x.a1 ∧ wfI k x.a2 ∧ wfI k x.a3 ∧ wfI k x.a4 ∧ wfI k x.a5 ∧ wfI k x.a6 ∧ wfI k x.a7) := fun enc w n cs y h => by
  obtain ⟨xs, m, _, _, h1, h2, h3⟩ := DataW.trod_array ht h
  rw [hN] at h1
  rw [hc] at h3
  match cs, h1 with
  | [c0, c1, c2, c3, c4, c5, c6, c7], _ =>
    have key : ∀ i c, i < 8 → [c0, c1, c2, c3, c4, c5, c6, c7].drop (i * 1) = c :: ([c0, c1, c2, c3, c4, c5, c6, c7].drop (i + 1)) → ∃ n, c = .int k n ∧ wfI k n := fun i c hi hd => by
      have h4 := h3 i hi
      have hi' : i < xs.length := by omega
      rw [hd, List.getElem?_eq_getElem hi'] at h4
      obtain ⟨n, h5, _, h6⟩ := DataW.trod_int he h4
      simp at h5
      exact ⟨n, h5, h6⟩
    obtain ⟨n0, rfl, w0⟩ := key 0 c0 (by omega) rfl
    obtain ⟨n1, rfl, w1⟩ := key 1 c1 (by omega) rfl
    obtain ⟨n2, rfl, w2⟩ := key 2 c2 (by omega) rfl
    obtain ⟨n3, rfl, w3⟩ := key 3 c3 (by omega) rfl
    obtain ⟨n4, rfl, w4⟩ := key 4 c4 (by omega) rfl
    obtain ⟨n5, rfl, w5⟩ := key 5 c5 (by omega) rfl
    obtain ⟨n6, rfl, w6⟩ := key 6 c6 (by omega) rfl
    obtain ⟨n7, rfl, w7⟩ := key 7 c7 (by omega) rfl
    exact ⟨⟨n0, n1, n2, n3, n4, n5, n6, n7⟩, rfl, w0, w1, w2, w3, w4, w5, w6, w7⟩
theorem lc {cs : List Value} {n : Nat} (h : cs.length = n + 1) : ∃ c cs', cs = c :: cs' ∧ cs'.length = n := by
  cases cs with
  | nil => simp at h
  | cons c cs => exact ⟨c, cs, rfl, by simpa using h⟩
/-- an argument, read -/
theorem rd_arg {S : Type} {cells : S → List Value} {R : Hp → S → Prop} (r : Rd P t cells R) {H : Type} {enc : TypeId × Value → H} {w : World} {v : Value} {d : DataW H} {ps : List MemPlace} (h : DataW.Trod enc P w 0 (fun _ => true) true t v d ps) : ∃ x, v.cells.toList = cells x ∧ R w.heap x := by
  obtain ⟨n, hn⟩ := h
  exact r enc w n _ _ hn
end Lf
end Go
namespace Go
namespace Lf
variable {P : Program} {t e : TypeId}
theorem arg_sl {S : Type} {El : Elt S} {R : Hp → S → Prop} {r : Reach} {b0 : Nat} {H : Type} {enc : TypeId × Value → H} {w : World} {v : Value} {d : DataW H} {ps : List MemPlace} (ht : P.underlying t = some (.slice e)) (hr : Rd P t (fun s : Sl => [Sl.enc s]) (RdSl El R)) (hv : Value.okWide P w r b0 t v)
    (h : DataW.Trod enc P w 0 (fun _ => true) true t v d ps) : ∃ s : Sl, v = s.enc ∧ RdSl El R w.heap s := by
  obtain ⟨s, h1, h2⟩ := rd_arg hr h
  refine ⟨s, ?_, h2⟩
  have hna : ∀ cs, v ≠ .agg cs := by
    rintro cs rfl
    simp [Value.okWide, Cell.okWide, Cell.ok, ht] at hv
  have hc : v.cells = #[v] := by cases v <;> first | rfl | exact absurd rfl (hna _)
  rw [hc] at h1
  exact (List.cons.inj h1).1
theorem arg_str {r : Reach} {b0 : Nat} {H : Type} {enc : TypeId × Value → H} {w : World} {v : Value} {d : DataW H} {ps : List MemPlace} (ht : P.underlying t = some .string) (hv : Value.okWide P w r b0 t v)
    (h : DataW.Trod enc P w 0 (fun _ => true) true t v d ps) : ∃ s : Str, v = vS s ∧ s.length ≤ maxLen := by
  obtain ⟨s, h1, h2⟩ := rd_arg (cells := fun s : Str => [vS s]) (R := fun _ s => s.length ≤ maxLen) (fun {_} => rd_str ht) h
  refine ⟨s, ?_, h2⟩
  have hna : ∀ cs, v ≠ .agg cs := by
    rintro cs rfl
    simp [Value.okWide, Cell.okWide, Cell.ok, ht] at hv
  have hc : v.cells = #[v] := by cases v <;> first | rfl | exact absurd rfl (hna _)
  rw [hc] at h1
  exact (List.cons.inj h1).1
theorem arg_int {k : IntKind} {r : Reach} {b0 : Nat} {H : Type} {enc : TypeId × Value → H} {w : World} {v : Value} {d : DataW H} {ps : List MemPlace} (ht : P.underlying t = some (.int k)) (hv : Value.okWide P w r b0 t v)
    (h : DataW.Trod enc P w 0 (fun _ => true) true t v d ps) : ∃ n : Int, v = .int k n ∧ wfI k n := by
  obtain ⟨s, h1, h2⟩ := rd_arg (cells := fun n : Int => [.int k n]) (R := fun _ n => wfI k n) (fun {_} => rd_int ht) h
  refine ⟨s, ?_, h2⟩
  have hna : ∀ cs, v ≠ .agg cs := by
    rintro cs rfl
    simp [Value.okWide, Cell.okWide, Cell.ok, ht] at hv
  have hc : v.cells = #[v] := by cases v <;> first | rfl | exact absurd rfl (hna _)
  rw [hc] at h1
  exact (List.cons.inj h1).1
theorem arg_st {S : Type} {cells : S → List Value} {R : Hp → S → Prop} {fs : Array Field} {r : Reach} {b0 : Nat} {H : Type} {enc : TypeId × Value → H} {w : World} {v : Value} {d : DataW H} {ps : List MemPlace} (ht : P.underlying t = some (.struct fs)) (hr : Rd P t cells R) (hv : Value.okWide P w r b0 t v)
    (h : DataW.Trod enc P w 0 (fun _ => true) true t v d ps) : ∃ x, v = .agg (cells x).toArray ∧ R w.heap x := by
  obtain ⟨s, h1, h2⟩ := rd_arg hr h
  refine ⟨s, ?_, h2⟩
  unfold Value.okWide at hv
  rw [ht] at hv
  obtain ⟨cs, rfl, _⟩ := hv
  simp only [Value.cells] at h1
  rw [← h1]
end Lf
end Go
namespace Go.Proofs.L
open Go.Lf Go.Crn
theorem ck3 : Tryz.prog.cellsOf 3 = 1 := by kernel_rfl
abbrev R3 (_h : Hp) (_x : Int) : Prop := wfI .i64 _x
theorem rd3 : Rd Tryz.prog 3 (fun x : Int => [.int .i64 x]) R3 := rd_int Tryz.underlying3
theorem ck24 : Tryz.prog.cellsOf 24 = 2 := by kernel_rfl
def R24 (h : Hp) (x : S_api_Stamp) : Prop := wfI .i64 x.Time ∧ wfI .i64 x.Who
theorem rd24 : Rd Tryz.prog 24 S_api_Stamp.cells R24 := rd_struct (N := 2) Tryz.underlying24 ck24 fun {_} enc w d0 l0 hf => by
    obtain ⟨c0, d1, rfl, l1⟩ := lc l0
    obtain ⟨c1, d2, rfl, l2⟩ := lc l1
    obtain rfl := List.eq_nil_of_length_eq_zero l2
    obtain ⟨m0, y0, f0⟩ : ∃ n y, DataW.trod enc Tryz.prog w 0 (fun _ => true) true n 3 [c0] = some y := by have := hf 0 _ rfl; change ∃ n y, DataW.trod enc Tryz.prog w 0 (fun _ => true) true n 3 (List.take (Tryz.prog.cellsOf 3) _) = some y at this; rw [ck3] at this; exact this
    obtain ⟨x0, e0, r0⟩ := rd3 enc w _ _ _ f0
    obtain ⟨m1, y1, f1⟩ : ∃ n y, DataW.trod enc Tryz.prog w 0 (fun _ => true) true n 3 [c1] = some y := by have := hf 1 _ rfl; change ∃ n y, DataW.trod enc Tryz.prog w 0 (fun _ => true) true n 3 (List.take (Tryz.prog.cellsOf 3) _) = some y at this; rw [ck3] at this; exact this
    obtain ⟨x1, e1, r1⟩ := rd3 enc w _ _ _ f1
    refine ⟨⟨x0, x1⟩, ?_, r0, r1⟩
    show [c0] ++ ([c1] ++ []) = _
    rw [e0, e1]; rfl
theorem ck26 : Tryz.prog.cellsOf 26 = 8 := by kernel_rfl
abbrev R26 (_h : Hp) (_x : A8 Int) : Prop := (wfI .i64 _x.a0 ∧ wfI .i64 _x.a1 ∧ wfI .i64 _x.a2 ∧ wfI .i64 _x.a3 ∧ wfI .i64 _x.a4 ∧ wfI .i64 _x.a5 ∧ wfI .i64 _x.a6 ∧ wfI .i64 _x.a7)
theorem rd26 : Rd Tryz.prog 26 (A8.cells .i64) R26 := rd_A8 Tryz.underlying26 Tryz.underlying3 (by kernel_rfl) (by kernel_rfl)
theorem ck9 : Tryz.prog.cellsOf 9 = 1 := by kernel_rfl
abbrev R9 (_h : Hp) (_x : Str) : Prop := _x.length ≤ maxLen
theorem rd9 : Rd Tryz.prog 9 (fun x : Str => [vS x]) R9 := rd_str Tryz.underlying9
theorem ck48 : Tryz.prog.cellsOf 48 = 1 := by kernel_rfl
abbrev R48 (_h : Hp) (_x : Int) : Prop := wfI .u64 _x
theorem rd48 : Rd Tryz.prog 48 (fun x : Int => [.int .u64 x]) R48 := rd_int Tryz.underlying48
theorem ck50 : Tryz.prog.cellsOf 50 = 4 := by kernel_rfl
def R50 (h : Hp) (x : S_api_Attr) : Prop := R24 h x.At ∧ wfI .i64 x.Mode ∧ wfI .u64 x.Time
theorem rd50 : Rd Tryz.prog 50 S_api_Attr.cells R50 := rd_struct (N := 4) Tryz.underlying50 ck50 fun {_} enc w d0 l0 hf => by
    obtain ⟨c0, d1, rfl, l1⟩ := lc l0
    obtain ⟨c1, d2, rfl, l2⟩ := lc l1
    obtain ⟨c2, d3, rfl, l3⟩ := lc l2
    obtain ⟨c3, d4, rfl, l4⟩ := lc l3
    obtain rfl := List.eq_nil_of_length_eq_zero l4
    obtain ⟨m0, y0, f0⟩ : ∃ n y, DataW.trod enc Tryz.prog w 0 (fun _ => true) true n 24 [c0, c1] = some y := by have := hf 0 _ rfl; change ∃ n y, DataW.trod enc Tryz.prog w 0 (fun _ => true) true n 24 (List.take (Tryz.prog.cellsOf 24) _) = some y at this; rw [ck24] at this; exact this
    obtain ⟨x0, e0, r0⟩ := rd24 enc w _ _ _ f0
    obtain ⟨m1, y1, f1⟩ : ∃ n y, DataW.trod enc Tryz.prog w 0 (fun _ => true) true n 3 [c2] = some y := by have := hf 1 _ rfl; change ∃ n y, DataW.trod enc Tryz.prog w 0 (fun _ => true) true n 3 (List.take (Tryz.prog.cellsOf 3) _) = some y at this; rw [ck3] at this; exact this
    obtain ⟨x1, e1, r1⟩ := rd3 enc w _ _ _ f1
    obtain ⟨m2, y2, f2⟩ : ∃ n y, DataW.trod enc Tryz.prog w 0 (fun _ => true) true n 48 [c3] = some y := by have := hf 2 _ rfl; change ∃ n y, DataW.trod enc Tryz.prog w 0 (fun _ => true) true n 48 (List.take (Tryz.prog.cellsOf 48) _) = some y at this; rw [ck48] at this; exact this
    obtain ⟨x2, e2, r2⟩ := rd48 enc w _ _ _ f2
    refine ⟨⟨x0, x1, x2⟩, ?_, r0, r1, r2⟩
    show [c0, c1] ++ ([c2] ++ ([c3] ++ [])) = _
    rw [e0, e1, e2]; rfl
theorem ck52 : Tryz.prog.cellsOf 52 = 3 := by kernel_rfl
def R52 (h : Hp) (x : S_api_Size) : Prop := R24 h x.At ∧ wfI .i64 x.N
theorem rd52 : Rd Tryz.prog 52 S_api_Size.cells R52 := rd_struct (N := 3) Tryz.underlying52 ck52 fun {_} enc w d0 l0 hf => by
    obtain ⟨c0, d1, rfl, l1⟩ := lc l0
    obtain ⟨c1, d2, rfl, l2⟩ := lc l1
    obtain ⟨c2, d3, rfl, l3⟩ := lc l2
    obtain rfl := List.eq_nil_of_length_eq_zero l3
    obtain ⟨m0, y0, f0⟩ : ∃ n y, DataW.trod enc Tryz.prog w 0 (fun _ => true) true n 24 [c0, c1] = some y := by have := hf 0 _ rfl; change ∃ n y, DataW.trod enc Tryz.prog w 0 (fun _ => true) true n 24 (List.take (Tryz.prog.cellsOf 24) _) = some y at this; rw [ck24] at this; exact this
    obtain ⟨x0, e0, r0⟩ := rd24 enc w _ _ _ f0
    obtain ⟨m1, y1, f1⟩ : ∃ n y, DataW.trod enc Tryz.prog w 0 (fun _ => true) true n 3 [c2] = some y := by have := hf 1 _ rfl; change ∃ n y, DataW.trod enc Tryz.prog w 0 (fun _ => true) true n 3 (List.take (Tryz.prog.cellsOf 3) _) = some y at this; rw [ck3] at this; exact this
    obtain ⟨x1, e1, r1⟩ := rd3 enc w _ _ _ f1
    refine ⟨⟨x0, x1⟩, ?_, r0, r1⟩
    show [c0, c1] ++ ([c2] ++ []) = _
    rw [e0, e1]; rfl
theorem ck73 : Tryz.prog.cellsOf 73 = 4 := by kernel_rfl
def R73 (h : Hp) (x : S_api_Piece) : Prop := wfI .i64 x.Index ∧ R24 h x.At ∧ x.Data.length ≤ maxLen
theorem rd73 : Rd Tryz.prog 73 S_api_Piece.cells R73 := rd_struct (N := 4) Tryz.underlying73 ck73 fun {_} enc w d0 l0 hf => by
    obtain ⟨c0, d1, rfl, l1⟩ := lc l0
    obtain ⟨c1, d2, rfl, l2⟩ := lc l1
    obtain ⟨c2, d3, rfl, l3⟩ := lc l2
    obtain ⟨c3, d4, rfl, l4⟩ := lc l3
    obtain rfl := List.eq_nil_of_length_eq_zero l4
    obtain ⟨m0, y0, f0⟩ : ∃ n y, DataW.trod enc Tryz.prog w 0 (fun _ => true) true n 3 [c0] = some y := by have := hf 0 _ rfl; change ∃ n y, DataW.trod enc Tryz.prog w 0 (fun _ => true) true n 3 (List.take (Tryz.prog.cellsOf 3) _) = some y at this; rw [ck3] at this; exact this
    obtain ⟨x0, e0, r0⟩ := rd3 enc w _ _ _ f0
    obtain ⟨m1, y1, f1⟩ : ∃ n y, DataW.trod enc Tryz.prog w 0 (fun _ => true) true n 24 [c1, c2] = some y := by have := hf 1 _ rfl; change ∃ n y, DataW.trod enc Tryz.prog w 0 (fun _ => true) true n 24 (List.take (Tryz.prog.cellsOf 24) _) = some y at this; rw [ck24] at this; exact this
    obtain ⟨x1, e1, r1⟩ := rd24 enc w _ _ _ f1
    obtain ⟨m2, y2, f2⟩ : ∃ n y, DataW.trod enc Tryz.prog w 0 (fun _ => true) true n 9 [c3] = some y := by have := hf 2 _ rfl; change ∃ n y, DataW.trod enc Tryz.prog w 0 (fun _ => true) true n 9 (List.take (Tryz.prog.cellsOf 9) _) = some y at this; rw [ck9] at this; exact this
    obtain ⟨x2, e2, r2⟩ := rd9 enc w _ _ _ f2
    refine ⟨⟨x0, x1, x2⟩, ?_, r0, r1, r2⟩
    show [c0] ++ ([c1, c2] ++ ([c3] ++ [])) = _
    rw [e0, e1, e2]; rfl
theorem ck53 : Tryz.prog.cellsOf 53 = 1 := by kernel_rfl
abbrev R53 (_h : Hp) (_x : Sl) : Prop := RdSl (⟨S_api_Piece.cells, 4, fun _ => rfl, fun _ => rfl⟩ : Elt S_api_Piece) R73 _h _x
theorem rd53 : Rd Tryz.prog 53 (fun x : Sl => [Sl.enc x]) R53 := rd_slice (El := (⟨S_api_Piece.cells, 4, fun _ => rfl, fun _ => rfl⟩ : Elt S_api_Piece)) Tryz.underlying53 rd73 ck73 (by decide)
theorem ck4 : Tryz.prog.cellsOf 4 = 1 := by kernel_rfl
abbrev R4 (_h : Hp) (_x : Bool) : Prop := True
theorem rd4 : Rd Tryz.prog 4 (fun x : Bool => [.bool x]) R4 := rd_bool Tryz.underlying4
theorem ck75 : Tryz.prog.cellsOf 75 = 5 := by kernel_rfl
def R75 (h : Hp) (x : S_api_Xattr) : Prop := x.Name.length ≤ maxLen ∧ R24 h x.At ∧ x.Val.length ≤ maxLen ∧ True
theorem rd75 : Rd Tryz.prog 75 S_api_Xattr.cells R75 := rd_struct (N := 5) Tryz.underlying75 ck75 fun {_} enc w d0 l0 hf => by
    obtain ⟨c0, d1, rfl, l1⟩ := lc l0
    obtain ⟨c1, d2, rfl, l2⟩ := lc l1
    obtain ⟨c2, d3, rfl, l3⟩ := lc l2
    obtain ⟨c3, d4, rfl, l4⟩ := lc l3
    obtain ⟨c4, d5, rfl, l5⟩ := lc l4
    obtain rfl := List.eq_nil_of_length_eq_zero l5
    obtain ⟨m0, y0, f0⟩ : ∃ n y, DataW.trod enc Tryz.prog w 0 (fun _ => true) true n 9 [c0] = some y := by have := hf 0 _ rfl; change ∃ n y, DataW.trod enc Tryz.prog w 0 (fun _ => true) true n 9 (List.take (Tryz.prog.cellsOf 9) _) = some y at this; rw [ck9] at this; exact this
    obtain ⟨x0, e0, r0⟩ := rd9 enc w _ _ _ f0
    obtain ⟨m1, y1, f1⟩ : ∃ n y, DataW.trod enc Tryz.prog w 0 (fun _ => true) true n 24 [c1, c2] = some y := by have := hf 1 _ rfl; change ∃ n y, DataW.trod enc Tryz.prog w 0 (fun _ => true) true n 24 (List.take (Tryz.prog.cellsOf 24) _) = some y at this; rw [ck24] at this; exact this
    obtain ⟨x1, e1, r1⟩ := rd24 enc w _ _ _ f1
    obtain ⟨m2, y2, f2⟩ : ∃ n y, DataW.trod enc Tryz.prog w 0 (fun _ => true) true n 9 [c3] = some y := by have := hf 2 _ rfl; change ∃ n y, DataW.trod enc Tryz.prog w 0 (fun _ => true) true n 9 (List.take (Tryz.prog.cellsOf 9) _) = some y at this; rw [ck9] at this; exact this
    obtain ⟨x2, e2, r2⟩ := rd9 enc w _ _ _ f2
    obtain ⟨m3, y3, f3⟩ : ∃ n y, DataW.trod enc Tryz.prog w 0 (fun _ => true) true n 4 [c4] = some y := by have := hf 3 _ rfl; change ∃ n y, DataW.trod enc Tryz.prog w 0 (fun _ => true) true n 4 (List.take (Tryz.prog.cellsOf 4) _) = some y at this; rw [ck4] at this; exact this
    obtain ⟨x3, e3, r3⟩ := rd4 enc w _ _ _ f3
    refine ⟨⟨x0, x1, x2, x3⟩, ?_, r0, r1, r2, r3⟩
    show [c0] ++ ([c1, c2] ++ ([c3] ++ ([c4] ++ []))) = _
    rw [e0, e1, e2, e3]; rfl
theorem ck54 : Tryz.prog.cellsOf 54 = 1 := by kernel_rfl
abbrev R54 (_h : Hp) (_x : Sl) : Prop := RdSl (⟨S_api_Xattr.cells, 5, fun _ => rfl, fun _ => rfl⟩ : Elt S_api_Xattr) R75 _h _x
theorem rd54 : Rd Tryz.prog 54 (fun x : Sl => [Sl.enc x]) R54 := rd_slice (El := (⟨S_api_Xattr.cells, 5, fun _ => rfl, fun _ => rfl⟩ : Elt S_api_Xattr)) Tryz.underlying54 rd75 ck75 (by decide)
theorem ck56 : Tryz.prog.cellsOf 56 = 13 := by kernel_rfl
def R56 (h : Hp) (x : S_api_Inode) : Prop := R24 h x.Id ∧ wfI .i64 x.Kind ∧ x.Text.length ≤ maxLen ∧ R50 h x.Attr ∧ R52 h x.Size ∧ RdSl (⟨S_api_Piece.cells, 4, fun _ => rfl, fun _ => rfl⟩ : Elt S_api_Piece) R73 h x.Pieces ∧ RdSl (⟨S_api_Xattr.cells, 5, fun _ => rfl, fun _ => rfl⟩ : Elt S_api_Xattr) R75 h x.Xattrs
theorem rd56 : Rd Tryz.prog 56 S_api_Inode.cells R56 := rd_struct (N := 13) Tryz.underlying56 ck56 fun {_} enc w d0 l0 hf => by
    obtain ⟨c0, d1, rfl, l1⟩ := lc l0
    obtain ⟨c1, d2, rfl, l2⟩ := lc l1
    obtain ⟨c2, d3, rfl, l3⟩ := lc l2
    obtain ⟨c3, d4, rfl, l4⟩ := lc l3
    obtain ⟨c4, d5, rfl, l5⟩ := lc l4
    obtain ⟨c5, d6, rfl, l6⟩ := lc l5
    obtain ⟨c6, d7, rfl, l7⟩ := lc l6
    obtain ⟨c7, d8, rfl, l8⟩ := lc l7
    obtain ⟨c8, d9, rfl, l9⟩ := lc l8
    obtain ⟨c9, d10, rfl, l10⟩ := lc l9
    obtain ⟨c10, d11, rfl, l11⟩ := lc l10
    obtain ⟨c11, d12, rfl, l12⟩ := lc l11
    obtain ⟨c12, d13, rfl, l13⟩ := lc l12
    obtain rfl := List.eq_nil_of_length_eq_zero l13
    obtain ⟨m0, y0, f0⟩ : ∃ n y, DataW.trod enc Tryz.prog w 0 (fun _ => true) true n 24 [c0, c1] = some y := by have := hf 0 _ rfl; change ∃ n y, DataW.trod enc Tryz.prog w 0 (fun _ => true) true n 24 (List.take (Tryz.prog.cellsOf 24) _) = some y at this; rw [ck24] at this; exact this
    obtain ⟨x0, e0, r0⟩ := rd24 enc w _ _ _ f0
    obtain ⟨m1, y1, f1⟩ : ∃ n y, DataW.trod enc Tryz.prog w 0 (fun _ => true) true n 3 [c2] = some y := by have := hf 1 _ rfl; change ∃ n y, DataW.trod enc Tryz.prog w 0 (fun _ => true) true n 3 (List.take (Tryz.prog.cellsOf 3) _) = some y at this; rw [ck3] at this; exact this
    obtain ⟨x1, e1, r1⟩ := rd3 enc w _ _ _ f1
    obtain ⟨m2, y2, f2⟩ : ∃ n y, DataW.trod enc Tryz.prog w 0 (fun _ => true) true n 9 [c3] = some y := by have := hf 2 _ rfl; change ∃ n y, DataW.trod enc Tryz.prog w 0 (fun _ => true) true n 9 (List.take (Tryz.prog.cellsOf 9) _) = some y at this; rw [ck9] at this; exact this
    obtain ⟨x2, e2, r2⟩ := rd9 enc w _ _ _ f2
    obtain ⟨m3, y3, f3⟩ : ∃ n y, DataW.trod enc Tryz.prog w 0 (fun _ => true) true n 50 [c4, c5, c6, c7] = some y := by have := hf 3 _ rfl; change ∃ n y, DataW.trod enc Tryz.prog w 0 (fun _ => true) true n 50 (List.take (Tryz.prog.cellsOf 50) _) = some y at this; rw [ck50] at this; exact this
    obtain ⟨x3, e3, r3⟩ := rd50 enc w _ _ _ f3
    obtain ⟨m4, y4, f4⟩ : ∃ n y, DataW.trod enc Tryz.prog w 0 (fun _ => true) true n 52 [c8, c9, c10] = some y := by have := hf 4 _ rfl; change ∃ n y, DataW.trod enc Tryz.prog w 0 (fun _ => true) true n 52 (List.take (Tryz.prog.cellsOf 52) _) = some y at this; rw [ck52] at this; exact this
    obtain ⟨x4, e4, r4⟩ := rd52 enc w _ _ _ f4
    obtain ⟨m5, y5, f5⟩ : ∃ n y, DataW.trod enc Tryz.prog w 0 (fun _ => true) true n 53 [c11] = some y := by have := hf 5 _ rfl; change ∃ n y, DataW.trod enc Tryz.prog w 0 (fun _ => true) true n 53 (List.take (Tryz.prog.cellsOf 53) _) = some y at this; rw [ck53] at this; exact this
    obtain ⟨x5, e5, r5⟩ := rd53 enc w _ _ _ f5
    obtain ⟨m6, y6, f6⟩ : ∃ n y, DataW.trod enc Tryz.prog w 0 (fun _ => true) true n 54 [c12] = some y := by have := hf 6 _ rfl; change ∃ n y, DataW.trod enc Tryz.prog w 0 (fun _ => true) true n 54 (List.take (Tryz.prog.cellsOf 54) _) = some y at this; rw [ck54] at this; exact this
    obtain ⟨x6, e6, r6⟩ := rd54 enc w _ _ _ f6
    refine ⟨⟨x0, x1, x2, x3, x4, x5, x6⟩, ?_, r0, r1, r2, r3, r4, r5, r6⟩
    show [c0, c1] ++ ([c2] ++ ([c3] ++ ([c4, c5, c6, c7] ++ ([c8, c9, c10] ++ ([c11] ++ ([c12] ++ [])))))) = _
    rw [e0, e1, e2, e3, e4, e5, e6]; rfl
theorem ck27 : Tryz.prog.cellsOf 27 = 1 := by kernel_rfl
abbrev R27 (_h : Hp) (_x : Sl) : Prop := RdSl (⟨S_api_Inode.cells, 13, fun _ => rfl, fun _ => rfl⟩ : Elt S_api_Inode) R56 _h _x
theorem rd27 : Rd Tryz.prog 27 (fun x : Sl => [Sl.enc x]) R27 := rd_slice (El := (⟨S_api_Inode.cells, 13, fun _ => rfl, fun _ => rfl⟩ : Elt S_api_Inode)) Tryz.underlying27 rd56 ck56 (by decide)
theorem ck58 : Tryz.prog.cellsOf 58 = 25 := by kernel_rfl
def R58 (h : Hp) (x : S_api_Link) : Prop := R24 h x.Id ∧ R24 h x.Node ∧ R24 h x.At ∧ R24 h x.Parent ∧ x.Name.length ≤ maxLen ∧ (wfI .i64 x.Alive.a0 ∧ wfI .i64 x.Alive.a1 ∧ wfI .i64 x.Alive.a2 ∧ wfI .i64 x.Alive.a3 ∧ wfI .i64 x.Alive.a4 ∧ wfI .i64 x.Alive.a5 ∧ wfI .i64 x.Alive.a6 ∧ wfI .i64 x.Alive.a7) ∧ (wfI .i64 x.Dead.a0 ∧ wfI .i64 x.Dead.a1 ∧ wfI .i64 x.Dead.a2 ∧ wfI .i64 x.Dead.a3 ∧ wfI .i64 x.Dead.a4 ∧ wfI .i64 x.Dead.a5 ∧ wfI .i64 x.Dead.a6 ∧ wfI .i64 x.Dead.a7)
theorem rd58 : Rd Tryz.prog 58 S_api_Link.cells R58 := rd_struct (N := 25) Tryz.underlying58 ck58 fun {_} enc w d0 l0 hf => by
    obtain ⟨c0, d1, rfl, l1⟩ := lc l0
    obtain ⟨c1, d2, rfl, l2⟩ := lc l1
    obtain ⟨c2, d3, rfl, l3⟩ := lc l2
    obtain ⟨c3, d4, rfl, l4⟩ := lc l3
    obtain ⟨c4, d5, rfl, l5⟩ := lc l4
    obtain ⟨c5, d6, rfl, l6⟩ := lc l5
    obtain ⟨c6, d7, rfl, l7⟩ := lc l6
    obtain ⟨c7, d8, rfl, l8⟩ := lc l7
    obtain ⟨c8, d9, rfl, l9⟩ := lc l8
    obtain ⟨c9, d10, rfl, l10⟩ := lc l9
    obtain ⟨c10, d11, rfl, l11⟩ := lc l10
    obtain ⟨c11, d12, rfl, l12⟩ := lc l11
    obtain ⟨c12, d13, rfl, l13⟩ := lc l12
    obtain ⟨c13, d14, rfl, l14⟩ := lc l13
    obtain ⟨c14, d15, rfl, l15⟩ := lc l14
    obtain ⟨c15, d16, rfl, l16⟩ := lc l15
    obtain ⟨c16, d17, rfl, l17⟩ := lc l16
    obtain ⟨c17, d18, rfl, l18⟩ := lc l17
    obtain ⟨c18, d19, rfl, l19⟩ := lc l18
    obtain ⟨c19, d20, rfl, l20⟩ := lc l19
    obtain ⟨c20, d21, rfl, l21⟩ := lc l20
    obtain ⟨c21, d22, rfl, l22⟩ := lc l21
    obtain ⟨c22, d23, rfl, l23⟩ := lc l22
    obtain ⟨c23, d24, rfl, l24⟩ := lc l23
    obtain ⟨c24, d25, rfl, l25⟩ := lc l24
    obtain rfl := List.eq_nil_of_length_eq_zero l25
    obtain ⟨m0, y0, f0⟩ : ∃ n y, DataW.trod enc Tryz.prog w 0 (fun _ => true) true n 24 [c0, c1] = some y := by have := hf 0 _ rfl; change ∃ n y, DataW.trod enc Tryz.prog w 0 (fun _ => true) true n 24 (List.take (Tryz.prog.cellsOf 24) _) = some y at this; rw [ck24] at this; exact this
    obtain ⟨x0, e0, r0⟩ := rd24 enc w _ _ _ f0
    obtain ⟨m1, y1, f1⟩ : ∃ n y, DataW.trod enc Tryz.prog w 0 (fun _ => true) true n 24 [c2, c3] = some y := by have := hf 1 _ rfl; change ∃ n y, DataW.trod enc Tryz.prog w 0 (fun _ => true) true n 24 (List.take (Tryz.prog.cellsOf 24) _) = some y at this; rw [ck24] at this; exact this
    obtain ⟨x1, e1, r1⟩ := rd24 enc w _ _ _ f1
    obtain ⟨m2, y2, f2⟩ : ∃ n y, DataW.trod enc Tryz.prog w 0 (fun _ => true) true n 24 [c4, c5] = some y := by have := hf 2 _ rfl; change ∃ n y, DataW.trod enc Tryz.prog w 0 (fun _ => true) true n 24 (List.take (Tryz.prog.cellsOf 24) _) = some y at this; rw [ck24] at this; exact this
    obtain ⟨x2, e2, r2⟩ := rd24 enc w _ _ _ f2
    obtain ⟨m3, y3, f3⟩ : ∃ n y, DataW.trod enc Tryz.prog w 0 (fun _ => true) true n 24 [c6, c7] = some y := by have := hf 3 _ rfl; change ∃ n y, DataW.trod enc Tryz.prog w 0 (fun _ => true) true n 24 (List.take (Tryz.prog.cellsOf 24) _) = some y at this; rw [ck24] at this; exact this
    obtain ⟨x3, e3, r3⟩ := rd24 enc w _ _ _ f3
    obtain ⟨m4, y4, f4⟩ : ∃ n y, DataW.trod enc Tryz.prog w 0 (fun _ => true) true n 9 [c8] = some y := by have := hf 4 _ rfl; change ∃ n y, DataW.trod enc Tryz.prog w 0 (fun _ => true) true n 9 (List.take (Tryz.prog.cellsOf 9) _) = some y at this; rw [ck9] at this; exact this
    obtain ⟨x4, e4, r4⟩ := rd9 enc w _ _ _ f4
    obtain ⟨m5, y5, f5⟩ : ∃ n y, DataW.trod enc Tryz.prog w 0 (fun _ => true) true n 26 [c9, c10, c11, c12, c13, c14, c15, c16] = some y := by have := hf 5 _ rfl; change ∃ n y, DataW.trod enc Tryz.prog w 0 (fun _ => true) true n 26 (List.take (Tryz.prog.cellsOf 26) _) = some y at this; rw [ck26] at this; exact this
    obtain ⟨x5, e5, r5⟩ := rd26 enc w _ _ _ f5
    obtain ⟨m6, y6, f6⟩ : ∃ n y, DataW.trod enc Tryz.prog w 0 (fun _ => true) true n 26 [c17, c18, c19, c20, c21, c22, c23, c24] = some y := by have := hf 6 _ rfl; change ∃ n y, DataW.trod enc Tryz.prog w 0 (fun _ => true) true n 26 (List.take (Tryz.prog.cellsOf 26) _) = some y at this; rw [ck26] at this; exact this
    obtain ⟨x6, e6, r6⟩ := rd26 enc w _ _ _ f6
    refine ⟨⟨x0, x1, x2, x3, x4, x5, x6⟩, ?_, r0, r1, r2, r3, r4, r5, r6⟩
    show [c0, c1] ++ ([c2, c3] ++ ([c4, c5] ++ ([c6, c7] ++ ([c8] ++ ([c9, c10, c11, c12, c13, c14, c15, c16] ++ ([c17, c18, c19, c20, c21, c22, c23, c24] ++ [])))))) = _
    rw [e0, e1, e2, e3, e4, e5, e6]; rfl
theorem ck28 : Tryz.prog.cellsOf 28 = 1 := by kernel_rfl
abbrev R28 (_h : Hp) (_x : Sl) : Prop := RdSl (⟨S_api_Link.cells, 25, fun _ => rfl, fun _ => rfl⟩ : Elt S_api_Link) R58 _h _x
theorem rd28 : Rd Tryz.prog 28 (fun x : Sl => [Sl.enc x]) R28 := rd_slice (El := (⟨S_api_Link.cells, 25, fun _ => rfl, fun _ => rfl⟩ : Elt S_api_Link)) Tryz.underlying28 rd58 ck58 (by decide)
theorem ck30 : Tryz.prog.cellsOf 30 = 10 := by kernel_rfl
def R30 (h : Hp) (x : S_api_State) : Prop := (wfI .i64 x.Seen.a0 ∧ wfI .i64 x.Seen.a1 ∧ wfI .i64 x.Seen.a2 ∧ wfI .i64 x.Seen.a3 ∧ wfI .i64 x.Seen.a4 ∧ wfI .i64 x.Seen.a5 ∧ wfI .i64 x.Seen.a6 ∧ wfI .i64 x.Seen.a7) ∧ RdSl (⟨S_api_Inode.cells, 13, fun _ => rfl, fun _ => rfl⟩ : Elt S_api_Inode) R56 h x.Nodes ∧ RdSl (⟨S_api_Link.cells, 25, fun _ => rfl, fun _ => rfl⟩ : Elt S_api_Link) R58 h x.Links
theorem rd30 : Rd Tryz.prog 30 S_api_State.cells R30 := rd_struct (N := 10) Tryz.underlying30 ck30 fun {_} enc w d0 l0 hf => by
    obtain ⟨c0, d1, rfl, l1⟩ := lc l0
    obtain ⟨c1, d2, rfl, l2⟩ := lc l1
    obtain ⟨c2, d3, rfl, l3⟩ := lc l2
    obtain ⟨c3, d4, rfl, l4⟩ := lc l3
    obtain ⟨c4, d5, rfl, l5⟩ := lc l4
    obtain ⟨c5, d6, rfl, l6⟩ := lc l5
    obtain ⟨c6, d7, rfl, l7⟩ := lc l6
    obtain ⟨c7, d8, rfl, l8⟩ := lc l7
    obtain ⟨c8, d9, rfl, l9⟩ := lc l8
    obtain ⟨c9, d10, rfl, l10⟩ := lc l9
    obtain rfl := List.eq_nil_of_length_eq_zero l10
    obtain ⟨m0, y0, f0⟩ : ∃ n y, DataW.trod enc Tryz.prog w 0 (fun _ => true) true n 26 [c0, c1, c2, c3, c4, c5, c6, c7] = some y := by have := hf 0 _ rfl; change ∃ n y, DataW.trod enc Tryz.prog w 0 (fun _ => true) true n 26 (List.take (Tryz.prog.cellsOf 26) _) = some y at this; rw [ck26] at this; exact this
    obtain ⟨x0, e0, r0⟩ := rd26 enc w _ _ _ f0
    obtain ⟨m1, y1, f1⟩ : ∃ n y, DataW.trod enc Tryz.prog w 0 (fun _ => true) true n 27 [c8] = some y := by have := hf 1 _ rfl; change ∃ n y, DataW.trod enc Tryz.prog w 0 (fun _ => true) true n 27 (List.take (Tryz.prog.cellsOf 27) _) = some y at this; rw [ck27] at this; exact this
    obtain ⟨x1, e1, r1⟩ := rd27 enc w _ _ _ f1
    obtain ⟨m2, y2, f2⟩ : ∃ n y, DataW.trod enc Tryz.prog w 0 (fun _ => true) true n 28 [c9] = some y := by have := hf 2 _ rfl; change ∃ n y, DataW.trod enc Tryz.prog w 0 (fun _ => true) true n 28 (List.take (Tryz.prog.cellsOf 28) _) = some y at this; rw [ck28] at this; exact this
    obtain ⟨x2, e2, r2⟩ := rd28 enc w _ _ _ f2
    refine ⟨⟨x0, x1, x2⟩, ?_, r0, r1, r2⟩
    show [c0, c1, c2, c3, c4, c5, c6, c7] ++ ([c8] ++ ([c9] ++ [])) = _
    rw [e0, e1, e2]; rfl
theorem ck32 : Tryz.prog.cellsOf 32 = 21 := by kernel_rfl
def R32 (h : Hp) (x : S_api_Event) : Prop := R24 h x.At ∧ wfI .i64 x.Vol ∧ (wfI .i64 x.Knew.a0 ∧ wfI .i64 x.Knew.a1 ∧ wfI .i64 x.Knew.a2 ∧ wfI .i64 x.Knew.a3 ∧ wfI .i64 x.Knew.a4 ∧ wfI .i64 x.Knew.a5 ∧ wfI .i64 x.Knew.a6 ∧ wfI .i64 x.Knew.a7) ∧ R30 h x.Delta
theorem rd32 : Rd Tryz.prog 32 S_api_Event.cells R32 := rd_struct (N := 21) Tryz.underlying32 ck32 fun {_} enc w d0 l0 hf => by
    obtain ⟨c0, d1, rfl, l1⟩ := lc l0
    obtain ⟨c1, d2, rfl, l2⟩ := lc l1
    obtain ⟨c2, d3, rfl, l3⟩ := lc l2
    obtain ⟨c3, d4, rfl, l4⟩ := lc l3
    obtain ⟨c4, d5, rfl, l5⟩ := lc l4
    obtain ⟨c5, d6, rfl, l6⟩ := lc l5
    obtain ⟨c6, d7, rfl, l7⟩ := lc l6
    obtain ⟨c7, d8, rfl, l8⟩ := lc l7
    obtain ⟨c8, d9, rfl, l9⟩ := lc l8
    obtain ⟨c9, d10, rfl, l10⟩ := lc l9
    obtain ⟨c10, d11, rfl, l11⟩ := lc l10
    obtain ⟨c11, d12, rfl, l12⟩ := lc l11
    obtain ⟨c12, d13, rfl, l13⟩ := lc l12
    obtain ⟨c13, d14, rfl, l14⟩ := lc l13
    obtain ⟨c14, d15, rfl, l15⟩ := lc l14
    obtain ⟨c15, d16, rfl, l16⟩ := lc l15
    obtain ⟨c16, d17, rfl, l17⟩ := lc l16
    obtain ⟨c17, d18, rfl, l18⟩ := lc l17
    obtain ⟨c18, d19, rfl, l19⟩ := lc l18
    obtain ⟨c19, d20, rfl, l20⟩ := lc l19
    obtain ⟨c20, d21, rfl, l21⟩ := lc l20
    obtain rfl := List.eq_nil_of_length_eq_zero l21
    obtain ⟨m0, y0, f0⟩ : ∃ n y, DataW.trod enc Tryz.prog w 0 (fun _ => true) true n 24 [c0, c1] = some y := by have := hf 0 _ rfl; change ∃ n y, DataW.trod enc Tryz.prog w 0 (fun _ => true) true n 24 (List.take (Tryz.prog.cellsOf 24) _) = some y at this; rw [ck24] at this; exact this
    obtain ⟨x0, e0, r0⟩ := rd24 enc w _ _ _ f0
    obtain ⟨m1, y1, f1⟩ : ∃ n y, DataW.trod enc Tryz.prog w 0 (fun _ => true) true n 3 [c2] = some y := by have := hf 1 _ rfl; change ∃ n y, DataW.trod enc Tryz.prog w 0 (fun _ => true) true n 3 (List.take (Tryz.prog.cellsOf 3) _) = some y at this; rw [ck3] at this; exact this
    obtain ⟨x1, e1, r1⟩ := rd3 enc w _ _ _ f1
    obtain ⟨m2, y2, f2⟩ : ∃ n y, DataW.trod enc Tryz.prog w 0 (fun _ => true) true n 26 [c3, c4, c5, c6, c7, c8, c9, c10] = some y := by have := hf 2 _ rfl; change ∃ n y, DataW.trod enc Tryz.prog w 0 (fun _ => true) true n 26 (List.take (Tryz.prog.cellsOf 26) _) = some y at this; rw [ck26] at this; exact this
    obtain ⟨x2, e2, r2⟩ := rd26 enc w _ _ _ f2
    obtain ⟨m3, y3, f3⟩ : ∃ n y, DataW.trod enc Tryz.prog w 0 (fun _ => true) true n 30 [c11, c12, c13, c14, c15, c16, c17, c18, c19, c20] = some y := by have := hf 3 _ rfl; change ∃ n y, DataW.trod enc Tryz.prog w 0 (fun _ => true) true n 30 (List.take (Tryz.prog.cellsOf 30) _) = some y at this; rw [ck30] at this; exact this
    obtain ⟨x3, e3, r3⟩ := rd30 enc w _ _ _ f3
    refine ⟨⟨x0, x1, x2, x3⟩, ?_, r0, r1, r2, r3⟩
    show [c0, c1] ++ ([c2] ++ ([c3, c4, c5, c6, c7, c8, c9, c10] ++ ([c11, c12, c13, c14, c15, c16, c17, c18, c19, c20] ++ []))) = _
    rw [e0, e1, e2, e3]; rfl
theorem ck22 : Tryz.prog.cellsOf 22 = 1 := by kernel_rfl
abbrev R22 (_h : Hp) (_x : Sl) : Prop := RdSl (⟨S_api_Event.cells, 21, fun _ => rfl, fun _ => rfl⟩ : Elt S_api_Event) R32 _h _x
theorem rd22 : Rd Tryz.prog 22 (fun x : Sl => [Sl.enc x]) R22 := rd_slice (El := (⟨S_api_Event.cells, 21, fun _ => rfl, fun _ => rfl⟩ : Elt S_api_Event)) Tryz.underlying22 rd32 ck32 (by decide)
end Go.Proofs.L
