/- Each function of the program does what its formula says: printed by a program of the prover's own. -/
import Derived.Test.YtnnlipkoedbnfaaTm
import Derived.Test.YtnnlipkoedbnfaaLa
import Derived.Test.YtnnlipkoedbnfaaTf
set_option linter.unusedVariables false
namespace Go.Proofs.L
open Go.Lf Go.Crn
set_option maxHeartbeats 4000000 in
theorem crannogplain_Small.lift {a0 : S_api_State} {Q : Bool → Hp → Prop} {hp : Hp} (h : crannogplain_Small a0 Q hp) : CallsH Try.prog 8 #[S_api_State.enc a0] hp (Rt Value.bool Q) := by
 unfold crannogplain_Small at h
 refine calls_of 99 Try.func8 rfl rfl ?_
 refine qs ?_
 refine wpL_boxX (vs := (S_api_State.cells a0)) rfl rfl Bx.nil h rfl ?_
 intro b1 hp h bx
 refine qa ?_
 refine qn ?_
 refine qe ?_
 obtain ⟨K4, jK4, h⟩ := h
 refine wpE_seqJH K4 (fun (x3 : Bool) (ρ : Env) (hp : Hp) => ρ 21 = .bool x3 ∧ ρ 1 = .pointer (some b1) ∧ Bx hp [(b1, (S_api_State.cells a0))]) (fun ρ x3 hp f h => ?_) ?_
 ·obtain ⟨e21, e1, bx⟩ := f
  replace h := jK4 x3 hp h
  refine qc e21 h (fun h => ?_) fun h => ?_
  ·refine qs ?_
   refine qa ?_
   refine qn ?_
   refine wpE_ret ?_
   exact body_r false rfl (rs_tmp rfl rs_nil) rfl h
  ·refine wpE_skip ?_
   refine qs ?_
   refine qa ?_
   refine qn ?_
   refine qe ?_
   refine qs ?_
   refine qy rfl (y_fa fa33_1 e1) ?_
   refine qy rfl (y_ld (v := (Sl.enc a0.Nodes)) ts30 rfl (Bx.cell bx 0 8 rfl (by kernel_rfl))) ?_
   refine qy rfl (y_lensl Try.underlying30 (lcons rfl lnil)) ?_
   refine qm ?_
   refine qn ?_
   refine wpE_block ?_
   obtain ⟨I9, m0, h, hI9⟩ := h
   refine wpE_loop (fun m ρ hp => ∃ u6 : Int × Int, (ρ 3 = .int .i64 u6.1 ∧ ρ 25 = .int .i64 u6.2 ∧ ρ 1 = .pointer (some b1) ∧ ρ 23 = Sl.enc a0.Nodes ∧ ρ 24 = .int .i64 (a0.Nodes.len : Int) ∧ Bx hp [(b1, (S_api_State.cells a0))]) ∧ I9 m u6 hp) (m := m0) ⟨(0, 0), ⟨rfl, rfl, e1, rfl, rfl, bx⟩, h⟩ ?_
   rintro m ρ hp ⟨u6, ⟨e3, e25, e1, e23, e24, bx⟩, h⟩
   replace h := hI9 m u6 hp h
   refine qs ?_
   refine qy rfl (y_bin e25 e24 (bin_lss _ _ _)) ?_
   refine qn ?_
   refine qe ?_
   refine qc rfl h (fun h => ?_) fun h => ?_
   ·refine wpE_skip ?_
    refine qb ?_
    refine qs ?_
    obtain ⟨p100, q11, q110, q111, h⟩ := h
    generalize q119 : p100.add (_ * _) = p10 at h
    refine qy rfl (ycast_p (y_ix Try.underlying30 ts55 e23 e25 q11 q110 q111) q119) ?_
    obtain ⟨v12, c13, h⟩ := h
    refine qy rfl (y_lda ts55 rfl rfl c13) ?_
    refine wpL_allocX (zs := (S_api_Inode.cells (S_api_Inode.mk (S_api_Stamp.mk 0 0) 0 [] (S_api_Attr.mk (S_api_Stamp.mk 0 0) 0 0) (S_api_Size.mk (S_api_Stamp.mk 0 0) 0) Sl.nil Sl.nil))) tz55 rfl bx h rfl ?_
    intro b14 hp h bx
    refine wpL_staX (L' := [(b14, (S_api_Inode.cells v12)), (b1, (S_api_State.cells a0))]) (i := 0) (off := 0) (cs' := (S_api_Inode.cells v12)) ts55 rfl rfl rfl rfl bx rfl (by kernel_rfl) h (by kernel_rfl) (by kernel_rfl) ?_
    intro hp h bx
    refine qn ?_
    refine qe ?_
    refine qs ?_
    refine qm ?_
    refine qy rfl (y_fa fa55_2 rfl) ?_
    refine qy rfl (y_ld (v := (vS v12.Text)) ts9 rfl (Bx.cell bx 0 3 rfl (by kernel_rfl))) ?_
    refine qy rfl (y_lenstr Try.underlying9 (lcons rfl lnil)) ?_
    refine qy rfl (y_min (lcons rfl (lcons rfl lnil))) ?_
    refine qy rfl (y_bin e3 rfl (bin_add _ _ _)) ?_
    refine qa ?_
    refine qn ?_
    obtain ⟨K18, jK18, h⟩ := h
    refine wpE_seqJH K18 (fun (x17 : Bool) (ρ : Env) (hp : Hp) => ρ 44 = .bool x17 ∧ ρ 1 = .pointer (some b1) ∧ ρ 3 = .int .i64 (IntKind.wrap .i64 (u6.1 + (iMin (v12.Text.length : Int) 16384))) ∧ ρ 5 = .pointer (some b14) ∧ ρ 23 = Sl.enc a0.Nodes ∧ ρ 24 = .int .i64 (a0.Nodes.len : Int) ∧ ρ 25 = .int .i64 u6.2 ∧ Bx hp [(b14, (S_api_Inode.cells v12)), (b1, (S_api_State.cells a0))]) (fun ρ x17 hp f h => ?_) ?_
    ·obtain ⟨e44, e1, e3, e5, e23, e24, e25, bx⟩ := f
     replace h := jK18 x17 hp h
     refine qc e44 h (fun h => ?_) fun h => ?_
     ·refine qs ?_
      refine qa ?_
      refine qn ?_
      refine wpE_ret ?_
      exact body_r false rfl (rs_tmp rfl rs_nil) rfl h
     ·refine wpE_skip ?_
      refine qe ?_
      refine qs ?_
      refine qy rfl (y_fa fa55_5 e5) ?_
      refine qy rfl (y_ld (v := (Sl.enc v12.Pieces)) ts52 rfl (Bx.cell bx 0 11 rfl (by kernel_rfl))) ?_
      refine qy rfl (y_lensl Try.underlying52 (lcons rfl lnil)) ?_
      refine qm ?_
      refine qn ?_
      refine wpE_block ?_
      obtain ⟨I23, m0, h, hI23⟩ := h
      refine wpE_loop (fun m ρ hp => ∃ u20 : Int × Int, (ρ 3 = .int .i64 u20.1 ∧ ρ 48 = .int .i64 u20.2 ∧ ρ 1 = .pointer (some b1) ∧ ρ 5 = .pointer (some b14) ∧ ρ 23 = Sl.enc a0.Nodes ∧ ρ 24 = .int .i64 (a0.Nodes.len : Int) ∧ ρ 25 = .int .i64 u6.2 ∧ ρ 46 = Sl.enc v12.Pieces ∧ ρ 47 = .int .i64 (v12.Pieces.len : Int) ∧ Bx hp [(b14, (S_api_Inode.cells v12)), (b1, (S_api_State.cells a0))]) ∧ I23 m u20 hp) (m := m0) ⟨(IntKind.wrap .i64 (u6.1 + (iMin (v12.Text.length : Int) 16384)), 0), ⟨e3, rfl, e1, e5, e23, e24, e25, rfl, rfl, bx⟩, h⟩ ?_
      rintro m ρ hp ⟨u20, ⟨e3, e48, e1, e5, e23, e24, e25, e46, e47, bx⟩, h⟩
      replace h := hI23 m u20 hp h
      refine qs ?_
      refine qy rfl (y_bin e48 e47 (bin_lss _ _ _)) ?_
      refine qn ?_
      refine qe ?_
      refine qc rfl h (fun h => ?_) fun h => ?_
      ·refine wpE_skip ?_
       refine qb ?_
       refine qs ?_
       obtain ⟨p240, q25, q250, q251, h⟩ := h
       generalize q259 : p240.add (_ * _) = p24 at h
       refine qy rfl (ycast_p (y_ix Try.underlying52 ts60 e46 e48 q25 q250 q251) q259) ?_
       obtain ⟨v26, c27, h⟩ := h
       refine qy rfl (y_lda ts60 rfl rfl c27) ?_
       refine wpL_allocX (zs := (S_api_Piece.cells (S_api_Piece.mk 0 (S_api_Stamp.mk 0 0) []))) tz60 rfl bx h rfl ?_
       intro b28 hp h bx
       refine wpL_staX (L' := [(b28, (S_api_Piece.cells v26)), (b14, (S_api_Inode.cells v12)), (b1, (S_api_State.cells a0))]) (i := 0) (off := 0) (cs' := (S_api_Piece.cells v26)) ts60 rfl rfl rfl rfl bx rfl (by kernel_rfl) h (by kernel_rfl) (by kernel_rfl) ?_
       intro hp h bx
       refine qn ?_
       refine qr ?_
       refine qm ?_
       refine qy rfl (y_fa fa60_2 rfl) ?_
       refine qy rfl (y_ld (v := (vS v26.Data)) ts9 rfl (Bx.cell bx 0 3 rfl (by kernel_rfl))) ?_
       refine qy rfl (y_lenstr Try.underlying9 (lcons rfl lnil)) ?_
       refine qy rfl (y_min (lcons rfl (lcons rfl lnil))) ?_
       refine qy rfl (y_bin rfl rfl (bin_add _ _ _)) ?_
       refine qy rfl (y_bin e3 rfl (bin_add _ _ _)) ?_
       refine qa ?_
       refine qn ?_
       refine qr ?_
       refine qy rfl (y_bin e48 rfl (bin_add _ _ _)) ?_
       refine qm ?_
       refine qn ?_
       obtain ⟨m, hm, h⟩ := h
       exact ⟨m, hm, (IntKind.wrap .i64 (u20.1 + (IntKind.wrap .i64 ((1 : Int) + (iMin (v26.Data.length : Int) 16384)))), IntKind.wrap .i64 (u20.2 + (1 : Int))), ⟨rfl, rfl, e1, e5, e23, e24, e25, e46, e47, (bx.sub (L' := [(b14, (S_api_Inode.cells v12)), (b1, (S_api_State.cells a0))]) (.cons _ (.cons_cons _ (.cons_cons _ .slnil))))⟩, h⟩
      ·refine wpE_exit ?_
       refine qe ?_
       refine qs ?_
       refine qy rfl (y_fa fa55_6 e5) ?_
       refine qy rfl (y_ld (v := (Sl.enc v12.Xattrs)) ts53 rfl (Bx.cell bx 0 12 rfl (by kernel_rfl))) ?_
       refine qy rfl (y_lensl Try.underlying53 (lcons rfl lnil)) ?_
       refine qm ?_
       refine qn ?_
       refine wpE_block ?_
       obtain ⟨I34, m0, h, hI34⟩ := h
       refine wpE_loop (fun m ρ hp => ∃ u31 : Int × Int, (ρ 3 = .int .i64 u31.1 ∧ ρ 63 = .int .i64 u31.2 ∧ ρ 1 = .pointer (some b1) ∧ ρ 23 = Sl.enc a0.Nodes ∧ ρ 24 = .int .i64 (a0.Nodes.len : Int) ∧ ρ 25 = .int .i64 u6.2 ∧ ρ 61 = Sl.enc v12.Xattrs ∧ ρ 62 = .int .i64 (v12.Xattrs.len : Int) ∧ Bx hp [(b1, (S_api_State.cells a0))]) ∧ I34 m u31 hp) (m := m0) ⟨(u20.1, 0), ⟨e3, rfl, e1, e23, e24, e25, rfl, rfl, (bx.sub (L' := [(b1, (S_api_State.cells a0))]) (.cons _ (.cons_cons _ .slnil)))⟩, h⟩ ?_
       rintro m ρ hp ⟨u31, ⟨e3, e63, e1, e23, e24, e25, e61, e62, bx⟩, h⟩
       replace h := hI34 m u31 hp h
       refine qs ?_
       refine qy rfl (y_bin e63 e62 (bin_lss _ _ _)) ?_
       refine qn ?_
       refine qe ?_
       refine qc rfl h (fun h => ?_) fun h => ?_
       ·refine wpE_skip ?_
        refine qb ?_
        refine qs ?_
        obtain ⟨p350, q36, q360, q361, h⟩ := h
        generalize q369 : p350.add (_ * _) = p35 at h
        refine qy rfl (ycast_p (y_ix Try.underlying53 ts62 e61 e63 q36 q360 q361) q369) ?_
        obtain ⟨v37, c38, h⟩ := h
        refine qy rfl (y_lda ts62 rfl rfl c38) ?_
        refine wpL_allocX (zs := (S_api_Xattr.cells (S_api_Xattr.mk [] (S_api_Stamp.mk 0 0) [] false))) tz62 rfl bx h rfl ?_
        intro b39 hp h bx
        refine wpL_staX (L' := [(b39, (S_api_Xattr.cells v37)), (b1, (S_api_State.cells a0))]) (i := 0) (off := 0) (cs' := (S_api_Xattr.cells v37)) ts62 rfl rfl rfl rfl bx rfl (by kernel_rfl) h (by kernel_rfl) (by kernel_rfl) ?_
        intro hp h bx
        refine qn ?_
        refine qr ?_
        refine qm ?_
        refine qy rfl (y_fa fa62_0 rfl) ?_
        refine qy rfl (y_ld (v := (vS v37.Name)) ts9 rfl (Bx.cell bx 0 0 rfl (by kernel_rfl))) ?_
        refine qy rfl (y_lenstr Try.underlying9 (lcons rfl lnil)) ?_
        refine qy rfl (y_min (lcons rfl (lcons rfl lnil))) ?_
        refine qy rfl (y_bin rfl rfl (bin_add _ _ _)) ?_
        refine qy rfl (y_fa fa62_2 rfl) ?_
        refine qy rfl (y_ld (v := (vS v37.Val)) ts9 rfl (Bx.cell bx 0 3 rfl (by kernel_rfl))) ?_
        refine qy rfl (y_lenstr Try.underlying9 (lcons rfl lnil)) ?_
        refine qy rfl (y_min (lcons rfl (lcons rfl lnil))) ?_
        refine qy rfl (y_bin rfl rfl (bin_add _ _ _)) ?_
        refine qy rfl (y_bin e3 rfl (bin_add _ _ _)) ?_
        refine qa ?_
        refine qn ?_
        refine qr ?_
        refine qy rfl (y_bin e63 rfl (bin_add _ _ _)) ?_
        refine qm ?_
        refine qn ?_
        obtain ⟨m, hm, h⟩ := h
        exact ⟨m, hm, (IntKind.wrap .i64 (u31.1 + (IntKind.wrap .i64 ((IntKind.wrap .i64 ((1 : Int) + (iMin (v37.Name.length : Int) 16384))) + (iMin (v37.Val.length : Int) 16384)))), IntKind.wrap .i64 (u31.2 + (1 : Int))), ⟨rfl, rfl, e1, e23, e24, e25, e61, e62, (bx.sub (L' := [(b1, (S_api_State.cells a0))]) (.cons _ (.cons_cons _ .slnil)))⟩, h⟩
       ·refine wpE_exit ?_
        refine qs ?_
        refine qm ?_
        refine qy rfl (y_bin e3 rfl (bin_gtr _ _ _)) ?_
        refine qn ?_
        refine qc rfl h (fun h => ?_) fun h => ?_
        ·refine qs ?_
         refine qa ?_
         refine qn ?_
         refine wpE_ret ?_
         exact body_r false rfl (rs_tmp rfl rs_nil) rfl h
        ·refine wpE_skip ?_
         refine qr ?_
         refine qy rfl (y_bin e25 rfl (bin_add _ _ _)) ?_
         refine qm ?_
         refine qn ?_
         obtain ⟨m, hm, h⟩ := h
         exact ⟨m, hm, (u31.1, IntKind.wrap .i64 (u6.2 + (1 : Int))), ⟨e3, rfl, e1, e23, e24, bx⟩, h⟩
    ·refine qr ?_
     refine qy rfl (y_fa fa55_5 rfl) ?_
     refine qy rfl (y_ld (v := (Sl.enc v12.Pieces)) ts52 rfl (Bx.cell bx 0 11 rfl (by kernel_rfl))) ?_
     refine qy rfl (y_lensl Try.underlying52 (lcons rfl lnil)) ?_
     refine qy rfl (y_bin rfl rfl (bin_gtr _ _ _)) ?_
     refine qm ?_
     refine wpL_split h (fun g42 h => ?_) (fun g42 h => ?_)
     ·refine qp rfl g42 ?_
      iterate 3 refine qp rfl g42 ?_
      refine qy rfl (y_pickt (vbool rfl g42)) ?_
      refine qn ?_
      exact ⟨true, ⟨rfl, e1, rfl, rfl, e23, e24, e25, bx⟩, h⟩
     ·refine qg rfl g42 ?_
      refine qy rfl (y_fa fa55_6 rfl) ?_
      refine qg rfl g42 ?_
      refine qy rfl (y_ld (v := (Sl.enc v12.Xattrs)) ts53 rfl (Bx.cell bx 0 12 rfl (by kernel_rfl))) ?_
      refine qg rfl g42 ?_
      refine qy rfl (y_lensl Try.underlying53 (lcons rfl lnil)) ?_
      refine qg rfl g42 ?_
      refine qy rfl (y_bin rfl rfl (bin_gtr _ _ _)) ?_
      refine qy rfl (y_pickf (vbool rfl g42)) ?_
      refine qn ?_
      exact ⟨(decide ((v12.Xattrs.len : Int) > (120 : Int))), ⟨rfl, e1, rfl, rfl, e23, e24, e25, bx⟩, h⟩
   ·refine wpE_exit ?_
    refine qe ?_
    refine qs ?_
    refine qy rfl (y_fa fa33_2 e1) ?_
    refine qy rfl (y_ld (v := (Sl.enc a0.Links)) ts31 rfl (Bx.cell bx 0 9 rfl (by kernel_rfl))) ?_
    refine qy rfl (y_lensl Try.underlying31 (lcons rfl lnil)) ?_
    refine qm ?_
    refine qn ?_
    refine wpE_block ?_
    obtain ⟨I46, m0, h, hI46⟩ := h
    refine wpE_loop (fun m ρ hp => ∃ u43 : Int × Int, (ρ 3 = .int .i64 u43.1 ∧ ρ 86 = .int .i64 u43.2 ∧ ρ 84 = Sl.enc a0.Links ∧ ρ 85 = .int .i64 (a0.Links.len : Int) ∧ True) ∧ I46 m u43 hp) (m := m0) ⟨(u6.1, 0), ⟨e3, rfl, rfl, rfl, trivial⟩, h⟩ ?_
    rintro m ρ hp ⟨u43, ⟨e3, e86, e84, e85, _⟩, h⟩
    replace h := hI46 m u43 hp h
    refine qs ?_
    refine qy rfl (y_bin e86 e85 (bin_lss _ _ _)) ?_
    refine qn ?_
    refine qe ?_
    refine qc rfl h (fun h => ?_) fun h => ?_
    ·refine wpE_skip ?_
     refine qb ?_
     refine qs ?_
     obtain ⟨p470, q48, q480, q481, h⟩ := h
     generalize q489 : p470.add (_ * _) = p47 at h
     refine qy rfl (ycast_p (y_ix Try.underlying31 ts57 e84 e86 q48 q480 q481) q489) ?_
     obtain ⟨v49, c50, h⟩ := h
     refine qy rfl (y_lda ts57 rfl rfl c50) ?_
     refine wpL_allocX (zs := (S_api_Link.cells (S_api_Link.mk (S_api_Stamp.mk 0 0) (S_api_Stamp.mk 0 0) (S_api_Stamp.mk 0 0) (S_api_Stamp.mk 0 0) [] (A8.mk 0 0 0 0 0 0 0 0) (A8.mk 0 0 0 0 0 0 0 0)))) tz57 rfl Bx.nil h rfl ?_
     intro b51 hp h bx
     refine wpL_staX (L' := [(b51, (S_api_Link.cells v49))]) (i := 0) (off := 0) (cs' := (S_api_Link.cells v49)) ts57 rfl rfl rfl rfl bx rfl (by kernel_rfl) h (by kernel_rfl) (by kernel_rfl) ?_
     intro hp h bx
     refine qn ?_
     refine qs ?_
     refine qm ?_
     refine qy rfl (y_fa fa57_4 rfl) ?_
     refine qy rfl (y_ld (v := (vS v49.Name)) ts9 rfl (Bx.cell bx 0 8 rfl (by kernel_rfl))) ?_
     refine qy rfl (y_lenstr Try.underlying9 (lcons rfl lnil)) ?_
     refine qy rfl (y_min (lcons rfl (lcons rfl lnil))) ?_
     refine qy rfl (y_bin e3 rfl (bin_add _ _ _)) ?_
     refine qa ?_
     refine qn ?_
     refine qs ?_
     refine qm ?_
     refine qy rfl (y_bin rfl rfl (bin_gtr _ _ _)) ?_
     refine qn ?_
     refine qc rfl h (fun h => ?_) fun h => ?_
     ·refine qs ?_
      refine qa ?_
      refine qn ?_
      refine wpE_ret ?_
      exact body_r false rfl (rs_tmp rfl rs_nil) rfl h
     ·refine wpE_skip ?_
      refine qr ?_
      refine qy rfl (y_bin e86 rfl (bin_add _ _ _)) ?_
      refine qm ?_
      refine qn ?_
      obtain ⟨m, hm, h⟩ := h
      exact ⟨m, hm, (IntKind.wrap .i64 (u43.1 + (iMin (v49.Name.length : Int) 16384)), IntKind.wrap .i64 (u43.2 + (1 : Int))), ⟨rfl, rfl, e84, e85, trivial⟩, h⟩
    ·refine wpE_exit ?_
     refine qs ?_
     refine qa ?_
     refine qn ?_
     refine wpE_ret ?_
     exact body_r true rfl (rs_tmp rfl rs_nil) rfl h
 ·refine qr ?_
  refine qy rfl (y_fa fa33_1 rfl) ?_
  refine qy rfl (y_ld (v := (Sl.enc a0.Nodes)) ts30 rfl (Bx.cell bx 0 8 rfl (by kernel_rfl))) ?_
  refine qy rfl (y_lensl Try.underlying30 (lcons rfl lnil)) ?_
  refine qy rfl (y_bin rfl rfl (bin_gtr _ _ _)) ?_
  refine qm ?_
  refine wpL_split h (fun g54 h => ?_) (fun g54 h => ?_)
  ·refine qp rfl g54 ?_
   iterate 3 refine qp rfl g54 ?_
   refine qy rfl (y_pickt (vbool rfl g54)) ?_
   refine qn ?_
   exact ⟨true, ⟨rfl, rfl, bx⟩, h⟩
  ·refine qg rfl g54 ?_
   refine qy rfl (y_fa fa33_2 rfl) ?_
   refine qg rfl g54 ?_
   refine qy rfl (y_ld (v := (Sl.enc a0.Links)) ts31 rfl (Bx.cell bx 0 9 rfl (by kernel_rfl))) ?_
   refine qg rfl g54 ?_
   refine qy rfl (y_lensl Try.underlying31 (lcons rfl lnil)) ?_
   refine qg rfl g54 ?_
   refine qy rfl (y_bin rfl rfl (bin_gtr _ _ _)) ?_
   refine qy rfl (y_pickf (vbool rfl g54)) ?_
   refine qn ?_
   exact ⟨(decide ((a0.Links.len : Int) > (120 : Int))), ⟨rfl, rfl, bx⟩, h⟩

set_option maxHeartbeats 4000000 in
theorem crannoglaw22_small.lift {a0 : Sl} {Q : Bool → Hp → Prop} {hp : Hp} (h : crannoglaw22_small a0 Q hp) : CallsH Try.prog 4 #[Sl.enc a0] hp (Rt Value.bool Q) := by
 unfold crannoglaw22_small at h
 refine calls_of 47 Try.func4 rfl rfl ?_
 refine qs ?_
 refine qa ?_
 refine qn ?_
 refine qs ?_
 refine qa ?_
 refine qn ?_
 refine qe ?_
 refine qs ?_
 refine qm ?_
 refine qy rfl (y_lensl Try.underlying40 (lcons rfl lnil)) ?_
 refine qm ?_
 refine qn ?_
 refine wpE_block ?_
 obtain ⟨I4, m0, h, hI4⟩ := h
 refine wpE_loop (fun m ρ hp => ∃ u1 : Int × Int, (ρ 3 = .int .i64 u1.1 ∧ ρ 10 = .int .i64 u1.2 ∧ ρ 8 = Sl.enc a0 ∧ ρ 9 = .int .i64 (a0.len : Int) ∧ True) ∧ I4 m u1 hp) (m := m0) ⟨(0, 0), ⟨rfl, rfl, rfl, rfl, trivial⟩, h⟩ ?_
 rintro m ρ hp ⟨u1, ⟨e3, e10, e8, e9, _⟩, h⟩
 replace h := hI4 m u1 hp h
 refine qs ?_
 refine qy rfl (y_bin e10 e9 (bin_lss _ _ _)) ?_
 refine qn ?_
 refine qe ?_
 refine qc rfl h (fun h => ?_) fun h => ?_
 ·refine wpE_skip ?_
  refine qb ?_
  refine qs ?_
  obtain ⟨p50, q6, q60, q61, h⟩ := h
  generalize q69 : p50.add (_ * _) = p5 at h
  refine qy rfl (ycast_p (y_ix Try.underlying40 ts22 e8 e10 q6 q60 q61) q69) ?_
  obtain ⟨v7, c8, h⟩ := h
  refine qy rfl (y_ld ts22 rfl c8) ?_
  refine qa ?_
  refine qn ?_
  refine qe ?_
  refine qs ?_
  iterate 2 refine qm ?_
  refine qy rfl (y_lensl Try.underlying22 (lcons rfl lnil)) ?_
  refine qy rfl (y_min (lcons rfl (lcons rfl lnil))) ?_
  refine qy rfl (y_bin e3 rfl (bin_add _ _ _)) ?_
  refine qa ?_
  refine qn ?_
  refine qs ?_
  refine qm ?_
  refine qy rfl (y_bin rfl rfl (bin_gtr _ _ _)) ?_
  refine qn ?_
  refine qc rfl h (fun h => ?_) fun h => ?_
  ·refine qs ?_
   refine qa ?_
   refine qn ?_
   refine wpE_ret ?_
   exact body_r false rfl (rs_tmp rfl rs_nil) rfl h
  ·refine wpE_skip ?_
   refine qs ?_
   refine qm ?_
   refine qy rfl (y_lensl Try.underlying22 (lcons rfl lnil)) ?_
   refine qm ?_
   refine qn ?_
   refine wpE_block ?_
   obtain ⟨I12, m0, h, hI12⟩ := h
   refine wpE_loop (fun m ρ hp => ∃ u9 : Int, (ρ 23 = .int .i64 u9 ∧ ρ 3 = .int .i64 (IntKind.wrap .i64 (u1.1 + (iMin (v7.len : Int) 61))) ∧ ρ 8 = Sl.enc a0 ∧ ρ 9 = .int .i64 (a0.len : Int) ∧ ρ 10 = .int .i64 u1.2 ∧ ρ 21 = Sl.enc v7 ∧ ρ 22 = .int .i64 (v7.len : Int) ∧ True) ∧ I12 m u9 hp) (m := m0) ⟨0, ⟨rfl, rfl, e8, e9, e10, rfl, rfl, trivial⟩, h⟩ ?_
   rintro m ρ hp ⟨u9, ⟨e23, e3, e8, e9, e10, e21, e22, _⟩, h⟩
   replace h := hI12 m u9 hp h
   refine qs ?_
   refine qy rfl (y_bin e23 e22 (bin_lss _ _ _)) ?_
   refine qn ?_
   refine qe ?_
   refine qc rfl h (fun h => ?_) fun h => ?_
   ·refine wpE_skip ?_
    refine qb ?_
    refine qs ?_
    obtain ⟨p130, q14, q140, q141, h⟩ := h
    generalize q149 : p130.add (_ * _) = p13 at h
    refine qy rfl (ycast_p (y_ix Try.underlying22 ts35 e21 e23 q14 q140 q141) q149) ?_
    obtain ⟨v15, c16, h⟩ := h
    refine qy rfl (y_lda ts35 rfl rfl c16) ?_
    refine wpL_allocX (zs := (S_api_Event.cells (S_api_Event.mk (S_api_Stamp.mk 0 0) 0 (A8.mk 0 0 0 0 0 0 0 0) (S_api_State.mk (A8.mk 0 0 0 0 0 0 0 0) Sl.nil Sl.nil)))) tz35 rfl Bx.nil h rfl ?_
    intro b17 hp h bx
    refine wpL_staX (L' := [(b17, (S_api_Event.cells v15))]) (i := 0) (off := 0) (cs' := (S_api_Event.cells v15)) ts35 rfl rfl rfl rfl bx rfl (by kernel_rfl) h (by kernel_rfl) (by kernel_rfl) ?_
    intro hp h bx
    refine qn ?_
    obtain ⟨K21, jK21, h⟩ := h
    refine wpE_seqJH K21 (fun (x20 : Bool) (ρ : Env) (hp : Hp) => ρ 44 = .bool x20 ∧ ρ 3 = .int .i64 (IntKind.wrap .i64 (u1.1 + (iMin (v7.len : Int) 61))) ∧ ρ 8 = Sl.enc a0 ∧ ρ 9 = .int .i64 (a0.len : Int) ∧ ρ 10 = .int .i64 u1.2 ∧ ρ 21 = Sl.enc v7 ∧ ρ 22 = .int .i64 (v7.len : Int) ∧ ρ 23 = .int .i64 u9 ∧ True) (fun ρ x20 hp f h => ?_) ?_
    ·obtain ⟨e44, e3, e8, e9, e10, e21, e22, e23, _⟩ := f
     replace h := jK21 x20 hp h
     refine qc e44 h (fun h => ?_) fun h => ?_
     ·refine qs ?_
      refine qa ?_
      refine qn ?_
      refine wpE_ret ?_
      exact body_r false rfl (rs_tmp rfl rs_nil) rfl h
     ·refine wpE_skip ?_
      refine qr ?_
      refine qy rfl (y_bin e23 rfl (bin_add _ _ _)) ?_
      refine qm ?_
      refine qn ?_
      obtain ⟨m, hm, h⟩ := h
      exact ⟨m, hm, (IntKind.wrap .i64 (u9 + (1 : Int))), ⟨rfl, e3, e8, e9, e10, e21, e22, trivial⟩, h⟩
    ·refine qr ?_
     refine qy rfl (y_fa fa35_3 rfl) ?_
     refine qy rfl (y_lda (cs := (S_api_State.cells v15.Delta)) ts33 rfl rfl (Bx.row bx 0 11 rfl (by kernel_rfl))) ?_
     refine wpL_call (vs := [S_api_State.enc v15.Delta]) tc8 (lcons rfl lnil) (crannogplain_Small.lift h) rfl ?_
     intro r23 hp h
     obtain ⟨kx, h⟩ := h
     replace bx := Bx.keep bx kx rfl
     refine qy rfl (y_not rfl) ?_
     refine qm ?_
     refine wpL_split h (fun g25 h => ?_) (fun g25 h => ?_)
     ·refine qp rfl g25 ?_
      iterate 4 refine qp rfl g25 ?_
      refine qy rfl (y_pickt (vbool rfl g25)) ?_
      refine qm ?_
      iterate 5 refine qP rfl rfl ?_
      refine qy rfl (y_pickt rfl) ?_
      refine qn ?_
      exact ⟨true, ⟨rfl, e3, e8, e9, e10, e21, e22, e23, trivial⟩, h⟩
     ·refine qg rfl g25 ?_
      refine qy rfl (y_fa fa35_3 rfl) ?_
      refine qg rfl g25 ?_
      refine qy rfl (ycast_p (y_fa fa33_1 rfl) (add_add b17 11 8)) ?_
      refine qg rfl g25 ?_
      refine qy rfl (y_ld (v := (Sl.enc v15.Delta.Nodes)) ts30 rfl (Bx.cell bx 0 19 rfl (by kernel_rfl))) ?_
      refine qg rfl g25 ?_
      refine qy rfl (y_lensl Try.underlying30 (lcons rfl lnil)) ?_
      refine qg rfl g25 ?_
      refine qy rfl (y_bin rfl rfl (bin_gtr _ _ _)) ?_
      refine qy rfl (y_pickf (vbool rfl g25)) ?_
      refine qm ?_
      refine wpL_split h (fun g26 h => ?_) (fun g26 h => ?_)
      ·refine qp rfl g26 ?_
       iterate 4 refine qp rfl g26 ?_
       refine qy rfl (y_pickt (vbool rfl g26)) ?_
       refine qn ?_
       exact ⟨true, ⟨rfl, e3, e8, e9, e10, e21, e22, e23, trivial⟩, h⟩
      ·refine qg rfl g26 ?_
       refine qy rfl (y_fa fa35_3 rfl) ?_
       refine qg rfl g26 ?_
       refine qy rfl (ycast_p (y_fa fa33_2 rfl) (add_add b17 11 9)) ?_
       refine qg rfl g26 ?_
       refine qy rfl (y_ld (v := (Sl.enc v15.Delta.Links)) ts31 rfl (Bx.cell bx 0 20 rfl (by kernel_rfl))) ?_
       refine qg rfl g26 ?_
       refine qy rfl (y_lensl Try.underlying31 (lcons rfl lnil)) ?_
       refine qg rfl g26 ?_
       refine qy rfl (y_bin rfl rfl (bin_gtr _ _ _)) ?_
       refine qy rfl (y_pickf (vbool rfl g26)) ?_
       refine qn ?_
       exact ⟨(decide ((v15.Delta.Links.len : Int) > (20 : Int))), ⟨rfl, e3, e8, e9, e10, e21, e22, e23, trivial⟩, h⟩
   ·refine wpE_exit ?_
    refine qr ?_
    refine qy rfl (y_bin e10 rfl (bin_add _ _ _)) ?_
    refine qm ?_
    refine qn ?_
    obtain ⟨m, hm, h⟩ := h
    exact ⟨m, hm, (IntKind.wrap .i64 (u1.1 + (iMin (v7.len : Int) 61)), IntKind.wrap .i64 (u1.2 + (1 : Int))), ⟨e3, rfl, e8, e9, trivial⟩, h⟩
 ·refine wpE_exit ?_
  refine qs ?_
  refine qa ?_
  refine qn ?_
  refine wpE_ret ?_
  exact body_r true rfl (rs_tmp rfl rs_nil) rfl h

set_option maxHeartbeats 4000000 in
theorem math_IsNaN.lift {a0 : Nat} {Q : Bool → Hp → Prop} {hp : Hp} (h : math_IsNaN a0 Q hp) : CallsH Try.prog 35 #[.float .f64 a0] hp (Rt Value.bool Q) := by
 unfold math_IsNaN at h
 refine calls_of 6 Try.func35 rfl rfl ?_
 refine qs ?_
 refine qa ?_
 refine qn ?_
 refine qs ?_
 iterate 2 refine qm ?_
 refine qy rfl (y_bin rfl rfl bin_fneq) ?_
 refine qa ?_
 refine qn ?_
 refine wpE_ret ?_
 exact body_r (!fEq a0 a0) rfl (rs_tmp rfl rs_nil) rfl h

set_option maxHeartbeats 4000000 in
theorem instant_Of.lift {a0 : Nat} {Q : (Int × Int) → Hp → Prop} {hp : Hp} (h : instant_Of a0 Q hp) : CallsH Try.prog 22 #[.float .f64 a0] hp (Rt (fun r : Int × Int => .tuple #[.int .u64 r.1, .int .i64 r.2]) Q) := by
 unfold instant_Of at h
 refine calls_of 18 Try.func22 rfl rfl ?_
 refine qs ?_
 iterate 2 refine qa ?_
 refine qn ?_
 refine qe ?_
 refine qs ?_
 refine qm ?_
 refine wpL_call (vs := [.float .f64 a0]) tc35 (lcons rfl lnil) (math_IsNaN.lift h) rfl ?_
 intro r1 hp h
 refine qn ?_
 refine qc rfl h (fun h => ?_) fun h => ?_
 ·refine qs ?_
  iterate 2 refine qa ?_
  refine qn ?_
  refine wpE_ret ?_
  exact body_r (0, 202) rfl (rs_tmp rfl (rs_tmp rfl rs_nil)) rfl h
 ·refine wpE_skip ?_
  refine qe ?_
  refine qs ?_
  refine qm ?_
  refine qy rfl (y_bin rfl rfl bin_feql) ?_
  refine qn ?_
  refine qc rfl h (fun h => ?_) fun h => ?_
  ·refine qs ?_
   iterate 2 refine qa ?_
   refine qn ?_
   refine wpE_ret ?_
   exact body_r (9223372036854775808, 0) rfl (rs_tmp rfl (rs_tmp rfl rs_nil)) rfl h
  ·refine wpE_skip ?_
   refine qs ?_
   refine qm ?_
   exact h.elim

set_option maxHeartbeats 4000000 in
theorem facts_Empty.lift  {Q : S_api_State → Hp → Prop} {hp : Hp} (h : facts_Empty Q hp) : CallsH Try.prog 11 #[] hp (Rt S_api_State.enc Q) := by
 unfold facts_Empty at h
 refine calls_of 12 Try.func11 rfl rfl ?_
 refine qs ?_
 refine wpL_allocX (zs := (S_api_State.cells (S_api_State.mk (A8.mk 0 0 0 0 0 0 0 0) Sl.nil Sl.nil))) tz33 rfl Bx.nil h rfl ?_
 intro b1 hp h bx
 refine qn ?_
 refine qs ?_
 refine wpL_call (vs := [.float .f64 0]) tc22 (lcons rfl lnil) (instant_Of.lift h) rfl ?_
 intro r3 hp h
 obtain ⟨kx, h⟩ := h
 replace bx := Bx.keep bx kx rfl
 refine qm ?_
 iterate 2 refine qy rfl (y_ext rfl rfl) ?_
 iterate 2 refine qa ?_
 refine qn ?_
 refine qs ?_
 refine qm ?_
 refine qy rfl (y_bl (cs := S_api_Attr.cells (S_api_Attr.mk (S_api_Stamp.mk 0 0) 493 r3.1)) pl49 (pcons rfl (pcons rfl rfl)) rfl) ?_
 refine qy rfl (y_bl (cs := S_api_Inode.cells (S_api_Inode.mk (S_api_Stamp.mk 0 0) 2 [] (S_api_Attr.mk (S_api_Stamp.mk 0 0) 493 r3.1) (S_api_Size.mk (S_api_Stamp.mk 0 0) 0) Sl.nil Sl.nil)) pl55 (pcons rfl (pcons rfl rfl)) rfl) ?_
 refine wpL_bsf Try.underlying30 ts55 tz55 rfl rfl (pcons rfl rfl) (full_cons rfl rfl full_nil) rfl h rfl ?_
 intro b5 hp h
 obtain ⟨kx, h⟩ := h
 replace bx := Bx.keep bx kx rfl
 refine qy rfl (y_bl (cs := S_api_State.cells (S_api_State.mk (A8.mk 0 0 0 0 0 0 0 0) (Sl.mk (some b5) 1 1) Sl.nil)) pl33 (pcons rfl rfl) rfl) ?_
 refine wpL_staX (L' := [(b1, (S_api_State.cells (S_api_State.mk (A8.mk 0 0 0 0 0 0 0 0) (Sl.mk (some b5) 1 1) Sl.nil)))]) (i := 0) (off := 0) (cs' := (S_api_State.cells (S_api_State.mk (A8.mk 0 0 0 0 0 0 0 0) (Sl.mk (some b5) 1 1) Sl.nil))) ts33 rfl rfl rfl rfl bx rfl (by kernel_rfl) h (by kernel_rfl) (by kernel_rfl) ?_
 intro hp h bx
 refine qn ?_
 refine wpE_ret ?_
 exact body_r (S_api_State.mk (A8.mk 0 0 0 0 0 0 0 0) (Sl.mk (some b5) 1 1) Sl.nil) rfl (rs_cella ts33 rfl rfl (Bx.row bx 0 0 rfl (by kernel_rfl)) rs_nil) rfl h

set_option maxHeartbeats 4000000 in
theorem vector_Join.lift {a0 : A8 Int} {a1 : A8 Int} {Q : (A8 Int) → Hp → Prop} {hp : Hp} (h : vector_Join a0 a1 Q hp) : CallsH Try.prog 24 #[A8.enc .i64 a0, A8.enc .i64 a1] hp (Rt (A8.enc .i64) Q) := by
 unfold vector_Join at h
 refine calls_of 21 Try.func24 rfl rfl ?_
 refine qs ?_
 refine wpL_boxX (vs := ((A8.cells .i64) a0)) rfl rfl Bx.nil h rfl ?_
 intro b1 hp h bx
 refine wpL_boxX (vs := ((A8.cells .i64) a1)) rfl rfl bx h rfl ?_
 intro b3 hp h bx
 refine wpL_allocX (zs := ((A8.cells .i64) (A8.mk 0 0 0 0 0 0 0 0))) tz29 rfl bx h rfl ?_
 intro b5 hp h bx
 refine qn ?_
 refine qe ?_
 refine qs ?_
 refine qy rfl (y_lda (cs := ((A8.cells .i64) a1)) ts29 rfl rfl (Bx.row bx 1 0 rfl (by kernel_rfl))) ?_
 refine qm ?_
 refine qn ?_
 refine wpE_block ?_
 obtain ⟨I10, m0, h, hI10⟩ := h
 refine wpE_loop (fun m ρ hp => ∃ u7 : Int × (A8 Int), (ρ 8 = .int .i64 u7.1 ∧ ρ 2 = .pointer (some b1) ∧ ρ 4 = .pointer (some b5) ∧ ρ 7 = A8.enc .i64 a1 ∧ Bx hp [(b5, ((A8.cells .i64) (A8.mk 0 0 0 0 0 0 0 0))), (b1, ((A8.cells .i64) u7.2))]) ∧ I10 m u7 hp) (m := m0) ⟨(0, a0), ⟨rfl, rfl, rfl, rfl, (bx.sub (L' := [(b5, ((A8.cells .i64) (A8.mk 0 0 0 0 0 0 0 0))), (b1, ((A8.cells .i64) a0))]) (.cons_cons _ (.cons _ (.cons_cons _ .slnil))))⟩, h⟩ ?_
 rintro m ρ hp ⟨u7, ⟨e8, e2, e4, e7, bx⟩, h⟩
 replace h := hI10 m u7 hp h
 refine qs ?_
 refine qy rfl (y_bin e8 rfl (bin_lss _ _ _)) ?_
 refine qn ?_
 refine qe ?_
 refine qc rfl h (fun h => ?_) fun h => ?_
 ·refine wpE_skip ?_
  refine qb ?_
  refine qs ?_
  refine qm ?_
  obtain ⟨q11, h⟩ := h
  refine qy rfl (y_arixX Try.underlying29 ts3 e7 e8 q11) ?_
  iterate 2 refine qa ?_
  refine qn ?_
  refine qr ?_
  iterate 2 refine qm ?_
  obtain ⟨q12, h⟩ := h
  refine qy rfl (y_ixaX (len := 8) Try.underlying29 ts3 e2 e8 q12) ?_
  refine qy rfl (y_ld (v := ((Value.int .i64) (A8.at_ u7.2 u7.1))) ts3 rfl (Bx.ari bx 1 0 rfl (by kernel_rfl) q12)) ?_
  refine qm ?_
  refine qy rfl (y_max (lcons rfl (lcons rfl lnil))) ?_
  obtain ⟨q13, h⟩ := h
  refine qy rfl (y_ixaX (len := 8) Try.underlying29 ts3 e2 e8 q13) ?_
  refine wpL_stiX (v := .int .i64 (iMax (A8.at_ u7.2 u7.1) (A8.at_ a1 u7.1))) (cs' := ((A8.cells .i64) (A8.put u7.2 u7.1 (iMax (A8.at_ u7.2 u7.1) (A8.at_ a1 u7.1))))) (L' := [(b5, ((A8.cells .i64) (A8.mk 0 0 0 0 0 0 0 0))), (b1, ((A8.cells .i64) (A8.put u7.2 u7.1 (iMax (A8.at_ u7.2 u7.1) (A8.at_ a1 u7.1)))))]) (i := 1) (off := 0) ts3 rfl rfl rfl bx rfl q13 rfl h (by rw [Nat.zero_add, A8.put_cells]) (by kernel_rfl) ?_
  intro hp h bx
  refine qn ?_
  refine qr ?_
  refine qy rfl (y_bin e8 rfl (bin_add _ _ _)) ?_
  refine qm ?_
  refine qn ?_
  obtain ⟨m, hm, h⟩ := h
  exact ⟨m, hm, (IntKind.wrap .i64 (u7.1 + (1 : Int)), (A8.put u7.2 u7.1 (iMax (A8.at_ u7.2 u7.1) (A8.at_ a1 u7.1)))), ⟨rfl, e2, e4, e7, bx⟩, h⟩
 ·refine wpE_exit ?_
  refine qs ?_
  refine qy rfl (y_lda (cs := ((A8.cells .i64) u7.2)) ts29 rfl e2 (Bx.row bx 1 0 rfl (by kernel_rfl))) ?_
  refine wpL_staX (L' := [(b5, ((A8.cells .i64) u7.2)), (b1, ((A8.cells .i64) u7.2))]) (i := 0) (off := 0) (cs' := ((A8.cells .i64) u7.2)) ts29 e4 rfl rfl rfl bx rfl (by kernel_rfl) h (by kernel_rfl) (by kernel_rfl) ?_
  intro hp h bx
  refine qn ?_
  refine wpE_ret ?_
  exact body_r u7.2 rfl (rs_cella ts29 rfl e4 (Bx.row bx 0 0 rfl (by kernel_rfl)) rs_nil) rfl h

set_option maxHeartbeats 4000000 in
theorem slices_Grow_api_Inode_api_Inode.lift {a0 : Sl} {a1 : Int} {Q : Sl → Hp → Prop} {hp : Hp} (h : slices_Grow_api_Inode_api_Inode a0 a1 Q hp) : CallsH Try.prog 64 #[Sl.enc a0, .int .i64 a1] hp (Rt Sl.enc Q) := by
 unfold slices_Grow_api_Inode_api_Inode at h
 refine calls_of 27 Try.func64 rfl rfl ?_
 refine qs ?_
 refine qa ?_
 refine qn ?_
 obtain ⟨K2, jK2, h⟩ := h
 refine wpE_seqJH K2 (fun (x1 : Unit) (ρ : Env) (hp : Hp) => ρ 0 = Sl.enc a0 ∧ ρ 1 = .int .i64 a1 ∧ True) (fun ρ x1 hp f h => ?_) ?_
 ·obtain ⟨e0, e1, _⟩ := f
  replace h := jK2 x1 hp h
  obtain ⟨K5, jK5, h⟩ := h
  refine wpE_seqJH K5 (fun (x4 : Sl) (ρ : Env) (hp : Hp) => ρ 0 = Sl.enc x4 ∧ True) (fun ρ x4 hp f h => ?_) ?_
  ·obtain ⟨e0, _⟩ := f
   replace h := jK5 x4 hp h
   refine qs ?_
   refine qm ?_
   refine qa ?_
   refine qn ?_
   refine wpE_ret ?_
   exact body_r x4 rfl (rs_tmp e0 rs_nil) rfl h
  ·refine qs ?_
   iterate 2 refine qm ?_
   refine qy rfl (y_capsl Try.underlying30 (lcons e0 lnil)) ?_
   refine qm ?_
   refine qy rfl (y_lensl Try.underlying30 (lcons e0 lnil)) ?_
   refine qy rfl (y_bin rfl rfl (bin_sub _ _ _)) ?_
   refine qy rfl (y_bin e1 rfl (bin_sub _ _ _)) ?_
   refine qa ?_
   refine qn ?_
   refine qs ?_
   refine qm ?_
   refine qy rfl (y_bin rfl rfl (bin_gtr _ _ _)) ?_
   refine qn ?_
   refine qc rfl h (fun h => ?_) fun h => ?_
   ·refine qr ?_
    iterate 2 refine qm ?_
    refine qy rfl (y_capsl Try.underlying30 (lcons e0 lnil)) ?_
    obtain ⟨q70, q71, q72, h⟩ := h
    generalize q79 : Sl.sub _ _ _ _ = v8 at h
    refine qy rfl (ycast_l (y_slsl Try.underlying30 ts55 e0 rfl ⟨_, rfl⟩ q70 q71 q72) q79) ?_
    refine qm ?_
    refine wpL_appz Try.underlying30 Try.underlying3 ts55 ti55 (by decide) tz55 rfl rfl rfl (lcons rfl (lcons rfl lnil)) h rfl ?_
    intro v9 hp h
    refine qm ?_
    refine qy rfl (y_lensl Try.underlying30 (lcons e0 lnil)) ?_
    obtain ⟨q110, q111, q112, h⟩ := h
    generalize q119 : Sl.sub _ _ _ _ = v12 at h
    refine qy rfl (ycast_l (y_slsl Try.underlying30 ts55 rfl rfl ⟨_, rfl⟩ q110 q111 q112) q119) ?_
    refine qa ?_
    refine qn ?_
    exact ⟨v12, ⟨rfl, trivial⟩, h⟩
   ·refine wpE_skip ?_
    exact ⟨a0, ⟨e0, trivial⟩, h⟩
 ·refine qs ?_
  refine qm ?_
  refine qy rfl (y_bin rfl rfl (bin_lss _ _ _)) ?_
  refine qn ?_
  refine qc rfl h (fun h => ?_) fun h => ?_
  ·refine qr ?_
   exact h.elim
  ·refine wpE_skip ?_
   exact ⟨(), ⟨rfl, rfl, trivial⟩, h⟩

set_option maxHeartbeats 4000000 in
theorem slices_Concat_api_Inode_api_Inode.lift {a0 : Sl} {Q : Sl → Hp → Prop} {hp : Hp} (h : slices_Concat_api_Inode_api_Inode a0 Q hp) : CallsH Try.prog 38 #[Sl.enc a0] hp (Rt Sl.enc Q) := by
 unfold slices_Concat_api_Inode_api_Inode at h
 refine calls_of 36 Try.func38 rfl rfl ?_
 refine qs ?_
 refine qa ?_
 refine qn ?_
 refine qs ?_
 refine qa ?_
 refine qn ?_
 refine qe ?_
 refine qs ?_
 refine qm ?_
 refine qy rfl (y_lensl Try.underlying111 (lcons rfl lnil)) ?_
 refine qm ?_
 refine qn ?_
 refine wpE_block ?_
 obtain ⟨I4, m0, h, hI4⟩ := h
 refine wpE_loop (fun m ρ hp => ∃ u1 : Int × Int, (ρ 3 = .int .i64 u1.1 ∧ ρ 11 = .int .i64 u1.2 ∧ ρ 0 = Sl.enc a0 ∧ ρ 9 = Sl.enc a0 ∧ ρ 10 = .int .i64 (a0.len : Int) ∧ True) ∧ I4 m u1 hp) (m := m0) ⟨(0, 0), ⟨rfl, rfl, rfl, rfl, rfl, trivial⟩, h⟩ ?_
 rintro m ρ hp ⟨u1, ⟨e3, e11, e0, e9, e10, _⟩, h⟩
 replace h := hI4 m u1 hp h
 refine qs ?_
 refine qy rfl (y_bin e11 e10 (bin_lss _ _ _)) ?_
 refine qn ?_
 refine qe ?_
 refine qc rfl h (fun h => ?_) fun h => ?_
 ·refine wpE_skip ?_
  obtain ⟨K6, jK6, h⟩ := h
  refine wpE_seqJH K6 (fun (x5 : Int) (ρ : Env) (hp : Hp) => ρ 3 = .int .i64 x5 ∧ ρ 0 = Sl.enc a0 ∧ ρ 9 = Sl.enc a0 ∧ ρ 10 = .int .i64 (a0.len : Int) ∧ ρ 11 = .int .i64 u1.2 ∧ True) (fun ρ x5 hp f h => ?_) ?_
  ·obtain ⟨e3, e0, e9, e10, e11, _⟩ := f
   replace h := jK6 x5 hp h
   refine qr ?_
   refine qy rfl (y_bin e11 rfl (bin_add _ _ _)) ?_
   refine qm ?_
   refine qn ?_
   obtain ⟨m, hm, h⟩ := h
   exact ⟨m, hm, (x5, IntKind.wrap .i64 (u1.2 + (1 : Int))), ⟨e3, rfl, e0, e9, e10, trivial⟩, h⟩
  ·refine wpE_block ?_
   refine qs ?_
   obtain ⟨p80, q9, q90, q91, h⟩ := h
   generalize q99 : p80.add (_ * _) = p8 at h
   refine qy rfl (ycast_p (y_ix Try.underlying111 ts30 e9 e11 q9 q90 q91) q99) ?_
   obtain ⟨v10, c11, h⟩ := h
   refine qy rfl (y_ld ts30 rfl c11) ?_
   refine qa ?_
   refine qn ?_
   refine qs ?_
   iterate 2 refine qm ?_
   refine qy rfl (y_lensl Try.underlying30 (lcons rfl lnil)) ?_
   refine qy rfl (y_bin e3 rfl (bin_add _ _ _)) ?_
   refine qa ?_
   refine qn ?_
   refine qs ?_
   refine qm ?_
   refine qy rfl (y_bin rfl rfl (bin_lss _ _ _)) ?_
   refine qn ?_
   refine qc rfl h (fun h => ?_) fun h => ?_
   ·refine qr ?_
    exact h.elim
   ·refine wpE_skip ?_
    exact ⟨(IntKind.wrap .i64 (u1.1 + (v10.len : Int))), ⟨rfl, e0, e9, e10, e11, trivial⟩, h⟩
 ·refine wpE_exit ?_
  refine qs ?_
  refine qm ?_
  refine wpL_call (vs := [Sl.enc Sl.nil, .int .i64 u1.1]) tc64 (lcons rfl (lcons e3 lnil)) (slices_Grow_api_Inode_api_Inode.lift h) rfl ?_
  intro r12 hp h
  refine qa ?_
  refine qn ?_
  refine qe ?_
  refine qs ?_
  refine qm ?_
  refine qy rfl (y_lensl Try.underlying111 (lcons e0 lnil)) ?_
  refine qm ?_
  refine qn ?_
  refine wpE_block ?_
  obtain ⟨I17, m0, h, hI17⟩ := h
  refine wpE_loop (fun m ρ hp => ∃ u14 : Sl × Int, (ρ 6 = Sl.enc u14.1 ∧ ρ 27 = .int .i64 u14.2 ∧ ρ 25 = Sl.enc a0 ∧ ρ 26 = .int .i64 (a0.len : Int) ∧ True) ∧ I17 m u14 hp) (m := m0) ⟨(r12, 0), ⟨rfl, rfl, e0, rfl, trivial⟩, h⟩ ?_
  rintro m ρ hp ⟨u14, ⟨e6, e27, e25, e26, _⟩, h⟩
  replace h := hI17 m u14 hp h
  refine qs ?_
  refine qy rfl (y_bin e27 e26 (bin_lss _ _ _)) ?_
  refine qn ?_
  refine qe ?_
  refine qc rfl h (fun h => ?_) fun h => ?_
  ·refine wpE_skip ?_
   refine qb ?_
   refine qs ?_
   obtain ⟨p180, q19, q190, q191, h⟩ := h
   generalize q199 : p180.add (_ * _) = p18 at h
   refine qy rfl (ycast_p (y_ix Try.underlying111 ts30 e25 e27 q19 q190 q191) q199) ?_
   obtain ⟨v20, c21, h⟩ := h
   refine qy rfl (y_ld ts30 rfl c21) ?_
   refine qa ?_
   refine qn ?_
   refine qr ?_
   iterate 2 refine qm ?_
   refine wpL_appsI Try.underlying30 Try.underlying30 ts55 ti55 (by decide) tz55 rfl (lcons e6 (lcons rfl lnil)) h rfl ?_
   intro v22 hp h
   refine qa ?_
   refine qn ?_
   refine qr ?_
   refine qy rfl (y_bin e27 rfl (bin_add _ _ _)) ?_
   refine qm ?_
   refine qn ?_
   obtain ⟨m, hm, h⟩ := h
   exact ⟨m, hm, (v22, IntKind.wrap .i64 (u14.2 + (1 : Int))), ⟨rfl, rfl, e25, e26, trivial⟩, h⟩
  ·refine wpE_exit ?_
   refine qs ?_
   refine qm ?_
   refine qa ?_
   refine qn ?_
   refine wpE_ret ?_
   exact body_r u14.1 rfl (rs_tmp e6 rs_nil) rfl h

set_option maxHeartbeats 4000000 in
theorem slices_insertionSortCmpFunc_api_Inode.lift {a0 : Sl} {a1 : Int} {a2 : Int} {a3 : Value} {a3_f : S_api_Inode → S_api_Inode → (Int → Hp → Prop) → Hp → Prop} (a3_i : ∀ x0 x1 Q h, a3_f x0 x1 Q h → CallsV Try.prog a3 [S_api_Inode.enc x0, S_api_Inode.enc x1] h (Rt (Value.int .i64) Q)) {Q : Unit → Hp → Prop} {hp : Hp} (h : slices_insertionSortCmpFunc_api_Inode a0 a1 a2 a3_f Q hp) : CallsH Try.prog 76 #[Sl.enc a0, .int .i64 a1, .int .i64 a2, a3] hp (Rt (fun _ : Unit => .tuple #[]) Q) := by
 unfold slices_insertionSortCmpFunc_api_Inode at h
 refine calls_of 53 Try.func76 rfl rfl ?_
 refine qs ?_
 refine qm ?_
 refine qy rfl (y_bin rfl rfl (bin_add _ _ _)) ?_
 refine qa ?_
 refine qn ?_
 refine wpE_block ?_
 obtain ⟨I4, m0, h, hI4⟩ := h
 refine wpE_loop (fun m ρ hp => ∃ u1 : Int, (ρ 8 = .int .i64 u1 ∧ ρ 0 = Sl.enc a0 ∧ ρ 1 = .int .i64 a1 ∧ ρ 2 = .int .i64 a2 ∧ ρ 3 = a3 ∧ True) ∧ I4 m u1 hp) (m := m0) ⟨(IntKind.wrap .i64 (a1 + (1 : Int))), ⟨rfl, rfl, rfl, rfl, rfl, trivial⟩, h⟩ ?_
 rintro m ρ hp ⟨u1, ⟨e8, e0, e1, e2, e3, _⟩, h⟩
 replace h := hI4 m u1 hp h
 refine qe ?_
 refine qs ?_
 iterate 2 refine qm ?_
 refine qy rfl (y_bin e8 e2 (bin_lss _ _ _)) ?_
 refine qn ?_
 refine qc rfl h (fun h => ?_) fun h => ?_
 ·refine wpE_skip ?_
  refine qb ?_
  refine qs ?_
  refine qm ?_
  refine qa ?_
  refine qn ?_
  refine wpE_block ?_
  obtain ⟨I8, m0, h, hI8⟩ := h
  refine wpE_loop (fun m ρ hp => ∃ u5 : Int, (ρ 9 = .int .i64 u5 ∧ ρ 0 = Sl.enc a0 ∧ ρ 1 = .int .i64 a1 ∧ ρ 2 = .int .i64 a2 ∧ ρ 3 = a3 ∧ ρ 8 = .int .i64 u1 ∧ True) ∧ I8 m u5 hp) (m := m0) ⟨u1, ⟨e8, e0, e1, e2, e3, e8, trivial⟩, h⟩ ?_
  rintro m ρ hp ⟨u5, ⟨e9, e0, e1, e2, e3, e8, _⟩, h⟩
  replace h := hI8 m u5 hp h
  refine qe ?_
  obtain ⟨K10, jK10, h⟩ := h
  refine wpE_seqJH K10 (fun (x9 : Bool) (ρ : Env) (hp : Hp) => ρ 34 = .bool x9 ∧ ρ 0 = Sl.enc a0 ∧ ρ 1 = .int .i64 a1 ∧ ρ 2 = .int .i64 a2 ∧ ρ 3 = a3 ∧ ρ 8 = .int .i64 u1 ∧ ρ 9 = .int .i64 u5 ∧ True) (fun ρ x9 hp f h => ?_) ?_
  ·obtain ⟨e34, e0, e1, e2, e3, e8, e9, _⟩ := f
   replace h := jK10 x9 hp h
   refine qc e34 h (fun h => ?_) fun h => ?_
   ·refine wpE_skip ?_
    refine qb ?_
    refine wpE_draw mixed rfl ?_
    refine qU 0 rfl rfl (fun _ => y_mv) ?_
    refine qU 1 rfl rfl (fun _ => y_mv) ?_
    refine qU 2 rfl rfl (fun _ => y_mv) ?_
    refine qU 3 rfl rfl (fun _ => y_mv) ?_
    refine qU 4 rfl rfl (fun _ => y_bin e9 rfl (bin_sub _ _ _)) ?_
    refine qU 5 rfl rfl (fun _ => y_mv) ?_
    refine qU 6 rfl rfl (fun _ => y_mv) ?_
    refine qU 7 rfl rfl (fun _ => y_bin e9 rfl (bin_sub _ _ _)) ?_
    obtain ⟨p120, q13, q130, q131, h⟩ := h
    generalize q139 : p120.add (_ * _) = p12 at h
    refine qU 8 rfl rfl (fun _ => ycast_p (y_ix Try.underlying30 ts55 e0 rfl q13 q130 q131) q139) ?_
    obtain ⟨v14, c15, h⟩ := h
    refine qT 9 15 (fun h => Row h p12 (S_api_Inode.cells v14)) rfl rfl c15 (fun _ c => y_lda ts55 rfl rfl c) ?_
    refine qU 10 rfl rfl (fun _ => y_mv) ?_
    refine qU 11 rfl rfl (fun _ => y_mv) ?_
    obtain ⟨p160, q17, q170, q171, h⟩ := h
    generalize q179 : p160.add (_ * _) = p16 at h
    refine qU 12 rfl rfl (fun _ => ycast_p (y_ix Try.underlying30 ts55 e0 e9 q17 q170 q171) q179) ?_
    obtain ⟨v18, c19, h⟩ := h
    refine qT 13 15 (fun h => Row h p16 (S_api_Inode.cells v18)) rfl rfl c19 (fun _ c => y_lda ts55 rfl rfl c) ?_
    obtain ⟨p200, q21, q210, q211, h⟩ := h
    generalize q219 : p200.add (_ * _) = p20 at h
    refine qU 14 rfl rfl (fun _ => ycast_p (y_ix Try.underlying30 ts55 e0 e9 q21 q210 q211) q219) ?_
    refine wpA_loud (rs := [15]) (by kernel_rfl) rfl ?_
    refine mcons (step_of rfl ?_) mnil
    refine wpL_sta ts55 rfl rfl rfl rfl h ?_
    generalize setCells _ _ _ _ = hp
    intro h
    refine qn ?_
    refine ⟨hs_dead rfl (hs_dead rfl hs_nil), ?_⟩
    obtain ⟨p230, q24, q240, q241, h⟩ := h
    generalize q249 : p230.add (_ * _) = p23 at h
    refine qU 16 rfl rfl (fun _ => ycast_p (y_ix Try.underlying30 ts55 e0 rfl q24 q240 q241) q249) ?_
    refine wpA_loud (rs := [17]) (by kernel_rfl) rfl ?_
    refine mcons (step_of rfl ?_) mnil
    refine wpL_sta ts55 rfl rfl rfl rfl h ?_
    generalize setCells _ _ _ _ = hp
    intro h
    refine qn ?_
    refine ⟨hs_dead rfl (hs_dead rfl hs_nil), ?_⟩
    refine qt (by kernel_rfl) ?_
    refine qr ?_
    refine qm ?_
    refine qy rfl (y_bin e9 rfl (bin_sub _ _ _)) ?_
    refine qa ?_
    refine qn ?_
    obtain ⟨m, hm, h⟩ := h
    exact ⟨m, hm, (IntKind.wrap .i64 (u5 - (1 : Int))), ⟨rfl, e0, e1, e2, e3, e8, trivial⟩, h⟩
   ·refine wpE_exit ?_
    refine qr ?_
    refine qm ?_
    refine qy rfl (y_bin e8 rfl (bin_add _ _ _)) ?_
    refine qa ?_
    refine qn ?_
    obtain ⟨m, hm, h⟩ := h
    exact ⟨m, hm, (IntKind.wrap .i64 (u1 + (1 : Int))), ⟨rfl, e0, e1, e2, e3, trivial⟩, h⟩
  ·refine wpE_draw mixed rfl ?_
   refine qU 0 rfl rfl (fun _ => y_mv) ?_
   refine qU 1 rfl rfl (fun _ => y_mv) ?_
   refine qU 2 rfl rfl (fun _ => y_bin e9 e1 (bin_gtr _ _ _)) ?_
   refine qU 3 rfl rfl (fun _ => y_mv) ?_
   refine wpA_split h (fun g26 h => ?_) (fun g26 h => ?_)
   ·refine qV 4 rfl rfl g26 (fun _ => y_mv) ?_
    refine qV 5 rfl rfl g26 (fun _ => y_mv) ?_
    refine qV 6 rfl rfl g26 (fun _ => y_mv) ?_
    obtain ⟨p270, q28, q280, q281, h⟩ := h
    generalize q289 : p270.add (_ * _) = p27 at h
    refine qV 7 rfl rfl g26 (fun _ => ycast_p (y_ix Try.underlying30 ts55 e0 e9 q28 q280 q281) q289) ?_
    obtain ⟨v29, c30, h⟩ := h
    refine wpA_take (i := 8) (kk := 14) (fun h => Row h p27 (S_api_Inode.cells v29)) rfl rfl rfl (by kernel_rfl) (by kernel_rfl) (wt_bool rfl rfl rfl (vbool rfl g26) rfl) (fun _ _ _ _ h => h) c30 (fun _ c => y_lda ts55 rfl rfl c) ?_
    refine qV 9 rfl rfl g26 (fun _ => y_mv) ?_
    refine qV 10 rfl rfl g26 (fun _ => y_mv) ?_
    refine qV 11 rfl rfl g26 (fun _ => y_bin e9 rfl (bin_sub _ _ _)) ?_
    obtain ⟨p310, q32, q320, q321, h⟩ := h
    generalize q329 : p310.add (_ * _) = p31 at h
    refine qV 12 rfl rfl g26 (fun _ => ycast_p (y_ix Try.underlying30 ts55 e0 rfl q32 q320 q321) q329) ?_
    obtain ⟨v33, c34, h⟩ := h
    refine wpA_take (i := 13) (kk := 14) (fun h => Row h p31 (S_api_Inode.cells v33)) rfl rfl rfl (by kernel_rfl) (by kernel_rfl) (wt_bool rfl rfl rfl (vbool rfl g26) rfl) (fun _ _ _ _ h => h) c34 (fun _ c => y_lda ts55 rfl rfl c) ?_
    refine wpA_loud (rs := [14]) (by kernel_rfl) rfl ?_
    refine mcons (step_of rfl ?_) mnil
    refine qg rfl g26 ?_
    refine wpL_callv e3 (lcons rfl (lcons rfl lnil)) (a3_i _ _ _ _ h) rfl ?_
    intro r35 hp h
    refine qn ?_
    refine ⟨hs_dead rfl (hs_dead rfl hs_nil), ?_⟩
    refine qV 15 rfl rfl g26 (fun _ => y_bin rfl rfl (bin_lss _ _ _)) ?_
    refine qU 16 rfl rfl (fun _ => y_pickt (vbool rfl g26)) ?_
    refine qt (by kernel_rfl) ?_
    exact ⟨(decide (r35 < (0 : Int))), ⟨rfl, e0, e1, e2, e3, e8, e9, trivial⟩, h⟩
   ·refine qW 4 rfl rfl g26 ?_
    refine qW 5 rfl rfl g26 ?_
    refine qW 6 rfl rfl g26 ?_
    refine qW 7 rfl rfl g26 ?_
    refine qW 8 rfl rfl g26 ?_
    refine qW 9 rfl rfl g26 ?_
    refine qW 10 rfl rfl g26 ?_
    refine qW 11 rfl rfl g26 ?_
    refine qW 12 rfl rfl g26 ?_
    refine qW 13 rfl rfl g26 ?_
    refine qW 14 rfl rfl g26 ?_
    refine qW 15 rfl rfl g26 ?_
    refine qU 16 rfl rfl (fun _ => y_pickf (vbool rfl g26)) ?_
    refine qt (by kernel_rfl) ?_
    exact ⟨false, ⟨rfl, e0, e1, e2, e3, e8, e9, trivial⟩, h⟩
 ·refine wpE_exit ?_
  exact body_n () rfl rs_nil rfl h

set_option maxHeartbeats 4000000 in
theorem slices_swapRangeCmpFunc_api_Inode.lift {a0 : Sl} {a1 : Int} {a2 : Int} {a3 : Int} {a4 : Value} {a4_f : S_api_Inode → S_api_Inode → (Int → Hp → Prop) → Hp → Prop} (a4_i : ∀ x0 x1 Q h, a4_f x0 x1 Q h → CallsV Try.prog a4 [S_api_Inode.enc x0, S_api_Inode.enc x1] h (Rt (Value.int .i64) Q)) {Q : Unit → Hp → Prop} {hp : Hp} (h : slices_swapRangeCmpFunc_api_Inode a0 a1 a2 a3 a4_f Q hp) : CallsH Try.prog 89 #[Sl.enc a0, .int .i64 a1, .int .i64 a2, .int .i64 a3, a4] hp (Rt (fun _ : Unit => .tuple #[]) Q) := by
 unfold slices_swapRangeCmpFunc_api_Inode at h
 refine calls_of 38 Try.func89 rfl rfl ?_
 refine qs ?_
 refine qa ?_
 refine qn ?_
 refine wpE_block ?_
 obtain ⟨I4, m0, h, hI4⟩ := h
 refine wpE_loop (fun m ρ hp => ∃ u1 : Int, (ρ 10 = .int .i64 u1 ∧ ρ 0 = Sl.enc a0 ∧ ρ 1 = .int .i64 a1 ∧ ρ 2 = .int .i64 a2 ∧ ρ 3 = .int .i64 a3 ∧ True) ∧ I4 m u1 hp) (m := m0) ⟨0, ⟨rfl, rfl, rfl, rfl, rfl, trivial⟩, h⟩ ?_
 rintro m ρ hp ⟨u1, ⟨e10, e0, e1, e2, e3, _⟩, h⟩
 replace h := hI4 m u1 hp h
 refine qe ?_
 refine qs ?_
 iterate 2 refine qm ?_
 refine qy rfl (y_bin e10 e3 (bin_lss _ _ _)) ?_
 refine qn ?_
 refine qc rfl h (fun h => ?_) fun h => ?_
 ·refine wpE_skip ?_
  refine qb ?_
  refine wpE_draw mixed rfl ?_
  refine qU 0 rfl rfl (fun _ => y_mv) ?_
  refine qU 1 rfl rfl (fun _ => y_mv) ?_
  refine qU 2 rfl rfl (fun _ => y_mv) ?_
  refine qU 3 rfl rfl (fun _ => y_bin e1 e10 (bin_add _ _ _)) ?_
  refine qU 4 rfl rfl (fun _ => y_mv) ?_
  refine qU 5 rfl rfl (fun _ => y_mv) ?_
  refine qU 6 rfl rfl (fun _ => y_mv) ?_
  refine qU 7 rfl rfl (fun _ => y_bin e2 e10 (bin_add _ _ _)) ?_
  refine qU 8 rfl rfl (fun _ => y_mv) ?_
  refine qU 9 rfl rfl (fun _ => y_mv) ?_
  refine qU 10 rfl rfl (fun _ => y_mv) ?_
  refine qU 11 rfl rfl (fun _ => y_bin e2 e10 (bin_add _ _ _)) ?_
  obtain ⟨p50, q6, q60, q61, h⟩ := h
  generalize q69 : p50.add (_ * _) = p5 at h
  refine qU 12 rfl rfl (fun _ => ycast_p (y_ix Try.underlying30 ts55 e0 rfl q6 q60 q61) q69) ?_
  obtain ⟨v7, c8, h⟩ := h
  refine qT 13 21 (fun h => Row h p5 (S_api_Inode.cells v7)) rfl rfl c8 (fun _ c => y_lda ts55 rfl rfl c) ?_
  refine qU 14 rfl rfl (fun _ => y_mv) ?_
  refine qU 15 rfl rfl (fun _ => y_mv) ?_
  refine qU 16 rfl rfl (fun _ => y_mv) ?_
  refine qU 17 rfl rfl (fun _ => y_bin e1 e10 (bin_add _ _ _)) ?_
  obtain ⟨p90, q10, q100, q101, h⟩ := h
  generalize q109 : p90.add (_ * _) = p9 at h
  refine qU 18 rfl rfl (fun _ => ycast_p (y_ix Try.underlying30 ts55 e0 rfl q10 q100 q101) q109) ?_
  obtain ⟨v11, c12, h⟩ := h
  refine qT 19 21 (fun h => Row h p9 (S_api_Inode.cells v11)) rfl rfl c12 (fun _ c => y_lda ts55 rfl rfl c) ?_
  obtain ⟨p130, q14, q140, q141, h⟩ := h
  generalize q149 : p130.add (_ * _) = p13 at h
  refine qU 20 rfl rfl (fun _ => ycast_p (y_ix Try.underlying30 ts55 e0 rfl q14 q140 q141) q149) ?_
  refine wpA_loud (rs := [21]) (by kernel_rfl) rfl ?_
  refine mcons (step_of rfl ?_) mnil
  refine wpL_sta ts55 rfl rfl rfl rfl h ?_
  generalize setCells _ _ _ _ = hp
  intro h
  refine qn ?_
  refine ⟨hs_dead rfl (hs_dead rfl hs_nil), ?_⟩
  obtain ⟨p160, q17, q170, q171, h⟩ := h
  generalize q179 : p160.add (_ * _) = p16 at h
  refine qU 22 rfl rfl (fun _ => ycast_p (y_ix Try.underlying30 ts55 e0 rfl q17 q170 q171) q179) ?_
  refine wpA_loud (rs := [23]) (by kernel_rfl) rfl ?_
  refine mcons (step_of rfl ?_) mnil
  refine wpL_sta ts55 rfl rfl rfl rfl h ?_
  generalize setCells _ _ _ _ = hp
  intro h
  refine qn ?_
  refine ⟨hs_dead rfl (hs_dead rfl hs_nil), ?_⟩
  refine qt (by kernel_rfl) ?_
  refine qr ?_
  refine qm ?_
  refine qy rfl (y_bin e10 rfl (bin_add _ _ _)) ?_
  refine qa ?_
  refine qn ?_
  obtain ⟨m, hm, h⟩ := h
  exact ⟨m, hm, (IntKind.wrap .i64 (u1 + (1 : Int))), ⟨rfl, e0, e1, e2, e3, trivial⟩, h⟩
 ·refine wpE_exit ?_
  exact body_n () rfl rs_nil rfl h

set_option maxHeartbeats 4000000 in
theorem slices_rotateCmpFunc_api_Inode.lift {a0 : Sl} {a1 : Int} {a2 : Int} {a3 : Int} {a4 : Value} {a4_f : S_api_Inode → S_api_Inode → (Int → Hp → Prop) → Hp → Prop} (a4_i : ∀ x0 x1 Q h, a4_f x0 x1 Q h → CallsV Try.prog a4 [S_api_Inode.enc x0, S_api_Inode.enc x1] h (Rt (Value.int .i64) Q)) {Q : Unit → Hp → Prop} {hp : Hp} (h : slices_rotateCmpFunc_api_Inode a0 a1 a2 a3 a4_f Q hp) : CallsH Try.prog 83 #[Sl.enc a0, .int .i64 a1, .int .i64 a2, .int .i64 a3, a4] hp (Rt (fun _ : Unit => .tuple #[]) Q) := by
 unfold slices_rotateCmpFunc_api_Inode at h
 refine calls_of 58 Try.func83 rfl rfl ?_
 refine qs ?_
 iterate 2 refine qm ?_
 refine qy rfl (y_bin rfl rfl (bin_sub _ _ _)) ?_
 refine qa ?_
 refine qn ?_
 refine qs ?_
 iterate 2 refine qm ?_
 refine qy rfl (y_bin rfl rfl (bin_sub _ _ _)) ?_
 refine qa ?_
 refine qn ?_
 refine qb ?_
 obtain ⟨I4, m0, h, hI4⟩ := h
 refine wpE_loop (fun m ρ hp => ∃ u1 : Int × Int, (ρ 10 = .int .i64 u1.1 ∧ ρ 11 = .int .i64 u1.2 ∧ ρ 0 = Sl.enc a0 ∧ ρ 2 = .int .i64 a2 ∧ ρ 4 = a4 ∧ True) ∧ I4 m u1 hp) (m := m0) ⟨(IntKind.wrap .i64 (a2 - a1), IntKind.wrap .i64 (a3 - a2)), ⟨rfl, rfl, rfl, rfl, rfl, trivial⟩, h⟩ ?_
 rintro m ρ hp ⟨u1, ⟨e10, e11, e0, e2, e4, _⟩, h⟩
 replace h := hI4 m u1 hp h
 refine qe ?_
 refine qs ?_
 iterate 2 refine qm ?_
 refine qy rfl (y_bin e10 e11 (bin_neq _ _ _)) ?_
 refine qn ?_
 refine qc rfl h (fun h => ?_) fun h => ?_
 ·refine wpE_skip ?_
  refine wpE_block ?_
  refine qs ?_
  iterate 2 refine qm ?_
  refine qy rfl (y_bin e10 e11 (bin_gtr _ _ _)) ?_
  refine qn ?_
  refine qc rfl h (fun h => ?_) fun h => ?_
  ·refine qs ?_
   iterate 3 refine qm ?_
   refine qy rfl (y_bin e2 e10 (bin_sub _ _ _)) ?_
   iterate 3 refine qm ?_
   refine wpL_call (vs := [Sl.enc a0, .int .i64 (IntKind.wrap .i64 (a2 - u1.1)), .int .i64 a2, .int .i64 u1.2, a4]) tc89 (lcons e0 (lcons rfl (lcons e2 (lcons e11 (lcons e4 lnil))))) (slices_swapRangeCmpFunc_api_Inode.lift a4_i h) rfl ?_
   intro r5 hp h
   refine qn ?_
   refine qr ?_
   iterate 2 refine qm ?_
   refine qy rfl (y_bin e10 e11 (bin_sub _ _ _)) ?_
   refine qa ?_
   refine qn ?_
   obtain ⟨m, hm, h⟩ := h
   exact ⟨m, hm, (IntKind.wrap .i64 (u1.1 - u1.2), u1.2), ⟨rfl, e11, e0, e2, e4, trivial⟩, h⟩
  ·refine qs ?_
   iterate 3 refine qm ?_
   refine qy rfl (y_bin e2 e10 (bin_sub _ _ _)) ?_
   iterate 2 refine qm ?_
   refine qy rfl (y_bin e2 e11 (bin_add _ _ _)) ?_
   refine qm ?_
   refine qy rfl (y_bin rfl e10 (bin_sub _ _ _)) ?_
   iterate 2 refine qm ?_
   refine wpL_call (vs := [Sl.enc a0, .int .i64 (IntKind.wrap .i64 (a2 - u1.1)), .int .i64 (IntKind.wrap .i64 ((IntKind.wrap .i64 (a2 + u1.2)) - u1.1)), .int .i64 u1.1, a4]) tc89 (lcons e0 (lcons rfl (lcons rfl (lcons e10 (lcons e4 lnil))))) (slices_swapRangeCmpFunc_api_Inode.lift a4_i h) rfl ?_
   intro r7 hp h
   refine qn ?_
   refine qr ?_
   iterate 2 refine qm ?_
   refine qy rfl (y_bin e11 e10 (bin_sub _ _ _)) ?_
   refine qa ?_
   refine qn ?_
   obtain ⟨m, hm, h⟩ := h
   exact ⟨m, hm, (u1.1, IntKind.wrap .i64 (u1.2 - u1.1)), ⟨e10, rfl, e0, e2, e4, trivial⟩, h⟩
 ·refine wpE_exit ?_
  refine qr ?_
  iterate 3 refine qm ?_
  refine qy rfl (y_bin e2 e10 (bin_sub _ _ _)) ?_
  iterate 3 refine qm ?_
  refine wpL_call (vs := [Sl.enc a0, .int .i64 (IntKind.wrap .i64 (a2 - u1.1)), .int .i64 a2, .int .i64 u1.1, a4]) tc89 (lcons e0 (lcons rfl (lcons e2 (lcons e10 (lcons e4 lnil))))) (slices_swapRangeCmpFunc_api_Inode.lift a4_i h) rfl ?_
  intro r9 hp h
  refine qn ?_
  exact body_n () rfl rs_nil rfl h

set_option maxHeartbeats 4000000 in
theorem slices_symMergeCmpFunc_api_Inode.lift : ∀ (k : Nat) {a0 : Sl} {a1 : Int} {a2 : Int} {a3 : Int} {a4 : Value} {a4_f : S_api_Inode → S_api_Inode → (Int → Hp → Prop) → Hp → Prop} (a4_i : ∀ x0 x1 Q h, a4_f x0 x1 Q h → CallsV Try.prog a4 [S_api_Inode.enc x0, S_api_Inode.enc x1] h (Rt (Value.int .i64) Q)) {Q : Unit → Hp → Prop} {hp : Hp} (_ : slices_symMergeCmpFunc_api_Inode k a0 a1 a2 a3 a4_f Q hp), CallsH Try.prog 77 #[Sl.enc a0, .int .i64 a1, .int .i64 a2, .int .i64 a3, a4] hp (Rt (fun _ : Unit => .tuple #[]) Q) := by
 intro k
 induction k with
 | zero =>
  intros
  rename_i h
  exact (h : False).elim
 | succ k ih_slices_symMergeCmpFunc_api_Inode =>
  intro a0 a1 a2 a3 a4 a4_f a4_i Q hp h
  unfold slices_symMergeCmpFunc_api_Inode at h
  refine calls_of 220 Try.func77 rfl rfl ?_
  refine qe ?_
  refine qs ?_
  iterate 2 refine qm ?_
  refine qy rfl (y_bin rfl rfl (bin_sub _ _ _)) ?_
  refine qy rfl (y_bin rfl rfl (bin_eql _ _ _)) ?_
  refine qn ?_
  refine qc rfl h (fun h => ?_) fun h => ?_
  ·refine qs ?_
   refine qm ?_
   refine qa ?_
   refine qn ?_
   refine qs ?_
   refine qm ?_
   refine qa ?_
   refine qn ?_
   refine qb ?_
   obtain ⟨I4, m0, h, hI4⟩ := h
   refine wpE_loop (fun m ρ hp => ∃ u1 : Int × Int, (ρ 10 = .int .i64 u1.1 ∧ ρ 11 = .int .i64 u1.2 ∧ ρ 0 = Sl.enc a0 ∧ ρ 1 = .int .i64 a1 ∧ ρ 4 = a4 ∧ True) ∧ I4 m u1 hp) (m := m0) ⟨(a2, a3), ⟨rfl, rfl, rfl, rfl, rfl, trivial⟩, h⟩ ?_
   rintro m ρ hp ⟨u1, ⟨e10, e11, e0, e1, e4, _⟩, h⟩
   replace h := hI4 m u1 hp h
   refine qe ?_
   refine qs ?_
   iterate 2 refine qm ?_
   refine qy rfl (y_bin e10 e11 (bin_lss _ _ _)) ?_
   refine qn ?_
   refine qc rfl h (fun h => ?_) fun h => ?_
   ·refine wpE_skip ?_
    refine wpE_block ?_
    refine qs ?_
    iterate 2 refine qm ?_
    refine qy rfl (y_bin e10 e11 (bin_add _ _ _)) ?_
    refine qy rfl (y_cvi Try.underlying3 Try.underlying36 rfl) ?_
    refine qy rfl (y_bin rfl rfl (bin_shr _ _ _ (by decide))) ?_
    refine qy rfl (y_cvi Try.underlying36 Try.underlying3 rfl) ?_
    refine qa ?_
    refine qn ?_
    refine qe ?_
    refine wpE_draw mixed rfl ?_
    refine qU 0 rfl rfl (fun _ => y_mv) ?_
    refine qU 1 rfl rfl (fun _ => y_mv) ?_
    refine qU 2 rfl rfl (fun _ => y_mv) ?_
    obtain ⟨p50, q6, q60, q61, h⟩ := h
    generalize q69 : p50.add (_ * _) = p5 at h
    refine qU 3 rfl rfl (fun _ => ycast_p (y_ix Try.underlying30 ts55 e0 rfl q6 q60 q61) q69) ?_
    obtain ⟨v7, c8, h⟩ := h
    refine qT 4 9 (fun h => Row h p5 (S_api_Inode.cells v7)) rfl rfl c8 (fun _ c => y_lda ts55 rfl rfl c) ?_
    refine qU 5 rfl rfl (fun _ => y_mv) ?_
    refine qU 6 rfl rfl (fun _ => y_mv) ?_
    obtain ⟨p90, q10, q100, q101, h⟩ := h
    generalize q109 : p90.add (_ * _) = p9 at h
    refine qU 7 rfl rfl (fun _ => ycast_p (y_ix Try.underlying30 ts55 e0 e1 q10 q100 q101) q109) ?_
    obtain ⟨v11, c12, h⟩ := h
    refine qT 8 9 (fun h => Row h p9 (S_api_Inode.cells v11)) rfl rfl c12 (fun _ c => y_lda ts55 rfl rfl c) ?_
    refine wpA_loud (rs := [9]) (by kernel_rfl) rfl ?_
    refine mcons (step_of rfl ?_) mnil
    refine wpL_callv e4 (lcons rfl (lcons rfl lnil)) (a4_i _ _ _ _ h) rfl ?_
    intro r13 hp h
    refine qn ?_
    refine ⟨hs_dead rfl (hs_dead rfl hs_nil), ?_⟩
    refine qU 10 rfl rfl (fun _ => y_bin rfl rfl (bin_lss _ _ _)) ?_
    refine qt (by kernel_rfl) ?_
    refine qc rfl h (fun h => ?_) fun h => ?_
    ·refine qr ?_
     refine qm ?_
     refine qy rfl (y_bin rfl rfl (bin_add _ _ _)) ?_
     refine qa ?_
     refine qn ?_
     obtain ⟨m, hm, h⟩ := h
     exact ⟨m, hm, (IntKind.wrap .i64 ((IntKind.wrap .i64 (iShr .u64 (IntKind.wrap .u64 (IntKind.wrap .i64 (u1.1 + u1.2))) (1 : Int))) + (1 : Int)), u1.2), ⟨rfl, e11, e0, e1, e4, trivial⟩, h⟩
    ·refine qr ?_
     refine qm ?_
     refine qa ?_
     refine qn ?_
     obtain ⟨m, hm, h⟩ := h
     exact ⟨m, hm, (u1.1, IntKind.wrap .i64 (iShr .u64 (IntKind.wrap .u64 (IntKind.wrap .i64 (u1.1 + u1.2))) (1 : Int))), ⟨e10, rfl, e0, e1, e4, trivial⟩, h⟩
   ·refine wpE_exit ?_
    refine qe ?_
    refine qs ?_
    refine qm ?_
    refine qa ?_
    refine qn ?_
    refine wpE_block ?_
    obtain ⟨I18, m0, h, hI18⟩ := h
    refine wpE_loop (fun m ρ hp => ∃ u15 : Int, (ρ 13 = .int .i64 u15 ∧ ρ 0 = Sl.enc a0 ∧ ρ 10 = .int .i64 u1.1 ∧ True) ∧ I18 m u15 hp) (m := m0) ⟨a1, ⟨e1, e0, e10, trivial⟩, h⟩ ?_
    rintro m ρ hp ⟨u15, ⟨e13, e0, e10, _⟩, h⟩
    replace h := hI18 m u15 hp h
    refine qe ?_
    refine qs ?_
    iterate 2 refine qm ?_
    refine qy rfl (y_bin e10 rfl (bin_sub _ _ _)) ?_
    refine qy rfl (y_bin e13 rfl (bin_lss _ _ _)) ?_
    refine qn ?_
    refine qc rfl h (fun h => ?_) fun h => ?_
    ·refine wpE_skip ?_
     refine qb ?_
     refine wpE_draw mixed rfl ?_
     refine qU 0 rfl rfl (fun _ => y_mv) ?_
     refine qU 1 rfl rfl (fun _ => y_mv) ?_
     refine qU 2 rfl rfl (fun _ => y_mv) ?_
     refine qU 3 rfl rfl (fun _ => y_mv) ?_
     refine qU 4 rfl rfl (fun _ => y_bin e13 rfl (bin_add _ _ _)) ?_
     refine qU 5 rfl rfl (fun _ => y_mv) ?_
     refine qU 6 rfl rfl (fun _ => y_mv) ?_
     refine qU 7 rfl rfl (fun _ => y_bin e13 rfl (bin_add _ _ _)) ?_
     obtain ⟨p190, q20, q200, q201, h⟩ := h
     generalize q209 : p190.add (_ * _) = p19 at h
     refine qU 8 rfl rfl (fun _ => ycast_p (y_ix Try.underlying30 ts55 e0 rfl q20 q200 q201) q209) ?_
     obtain ⟨v21, c22, h⟩ := h
     refine qT 9 15 (fun h => Row h p19 (S_api_Inode.cells v21)) rfl rfl c22 (fun _ c => y_lda ts55 rfl rfl c) ?_
     refine qU 10 rfl rfl (fun _ => y_mv) ?_
     refine qU 11 rfl rfl (fun _ => y_mv) ?_
     obtain ⟨p230, q24, q240, q241, h⟩ := h
     generalize q249 : p230.add (_ * _) = p23 at h
     refine qU 12 rfl rfl (fun _ => ycast_p (y_ix Try.underlying30 ts55 e0 e13 q24 q240 q241) q249) ?_
     obtain ⟨v25, c26, h⟩ := h
     refine qT 13 15 (fun h => Row h p23 (S_api_Inode.cells v25)) rfl rfl c26 (fun _ c => y_lda ts55 rfl rfl c) ?_
     obtain ⟨p270, q28, q280, q281, h⟩ := h
     generalize q289 : p270.add (_ * _) = p27 at h
     refine qU 14 rfl rfl (fun _ => ycast_p (y_ix Try.underlying30 ts55 e0 e13 q28 q280 q281) q289) ?_
     refine wpA_loud (rs := [15]) (by kernel_rfl) rfl ?_
     refine mcons (step_of rfl ?_) mnil
     refine wpL_sta ts55 rfl rfl rfl rfl h ?_
     generalize setCells _ _ _ _ = hp
     intro h
     refine qn ?_
     refine ⟨hs_dead rfl (hs_dead rfl hs_nil), ?_⟩
     obtain ⟨p300, q31, q310, q311, h⟩ := h
     generalize q319 : p300.add (_ * _) = p30 at h
     refine qU 16 rfl rfl (fun _ => ycast_p (y_ix Try.underlying30 ts55 e0 rfl q31 q310 q311) q319) ?_
     refine wpA_loud (rs := [17]) (by kernel_rfl) rfl ?_
     refine mcons (step_of rfl ?_) mnil
     refine wpL_sta ts55 rfl rfl rfl rfl h ?_
     generalize setCells _ _ _ _ = hp
     intro h
     refine qn ?_
     refine ⟨hs_dead rfl (hs_dead rfl hs_nil), ?_⟩
     refine qt (by kernel_rfl) ?_
     refine qr ?_
     refine qm ?_
     refine qy rfl (y_bin e13 rfl (bin_add _ _ _)) ?_
     refine qa ?_
     refine qn ?_
     obtain ⟨m, hm, h⟩ := h
     exact ⟨m, hm, (IntKind.wrap .i64 (u15 + (1 : Int))), ⟨rfl, e0, e10, trivial⟩, h⟩
    ·refine wpE_exit ?_
     refine wpE_ret ?_
     exact body_r () rfl rs_nil rfl h
  ·refine wpE_skip ?_
   refine qe ?_
   refine qs ?_
   iterate 2 refine qm ?_
   refine qy rfl (y_bin rfl rfl (bin_sub _ _ _)) ?_
   refine qy rfl (y_bin rfl rfl (bin_eql _ _ _)) ?_
   refine qn ?_
   refine qc rfl h (fun h => ?_) fun h => ?_
   ·refine qs ?_
    refine qm ?_
    refine qa ?_
    refine qn ?_
    refine qs ?_
    refine qm ?_
    refine qa ?_
    refine qn ?_
    refine qb ?_
    obtain ⟨I36, m0, h, hI36⟩ := h
    refine wpE_loop (fun m ρ hp => ∃ u33 : Int × Int, (ρ 14 = .int .i64 u33.1 ∧ ρ 15 = .int .i64 u33.2 ∧ ρ 0 = Sl.enc a0 ∧ ρ 2 = .int .i64 a2 ∧ ρ 4 = a4 ∧ True) ∧ I36 m u33 hp) (m := m0) ⟨(a1, a2), ⟨rfl, rfl, rfl, rfl, rfl, trivial⟩, h⟩ ?_
    rintro m ρ hp ⟨u33, ⟨e14, e15, e0, e2, e4, _⟩, h⟩
    replace h := hI36 m u33 hp h
    refine qe ?_
    refine qs ?_
    iterate 2 refine qm ?_
    refine qy rfl (y_bin e14 e15 (bin_lss _ _ _)) ?_
    refine qn ?_
    refine qc rfl h (fun h => ?_) fun h => ?_
    ·refine wpE_skip ?_
     refine wpE_block ?_
     refine qs ?_
     iterate 2 refine qm ?_
     refine qy rfl (y_bin e14 e15 (bin_add _ _ _)) ?_
     refine qy rfl (y_cvi Try.underlying3 Try.underlying36 rfl) ?_
     refine qy rfl (y_bin rfl rfl (bin_shr _ _ _ (by decide))) ?_
     refine qy rfl (y_cvi Try.underlying36 Try.underlying3 rfl) ?_
     refine qa ?_
     refine qn ?_
     refine qe ?_
     refine wpE_draw mixed rfl ?_
     refine qU 0 rfl rfl (fun _ => y_mv) ?_
     refine qU 1 rfl rfl (fun _ => y_mv) ?_
     refine qU 2 rfl rfl (fun _ => y_mv) ?_
     obtain ⟨p370, q38, q380, q381, h⟩ := h
     generalize q389 : p370.add (_ * _) = p37 at h
     refine qU 3 rfl rfl (fun _ => ycast_p (y_ix Try.underlying30 ts55 e0 e2 q38 q380 q381) q389) ?_
     obtain ⟨v39, c40, h⟩ := h
     refine qT 4 9 (fun h => Row h p37 (S_api_Inode.cells v39)) rfl rfl c40 (fun _ c => y_lda ts55 rfl rfl c) ?_
     refine qU 5 rfl rfl (fun _ => y_mv) ?_
     refine qU 6 rfl rfl (fun _ => y_mv) ?_
     obtain ⟨p410, q42, q420, q421, h⟩ := h
     generalize q429 : p410.add (_ * _) = p41 at h
     refine qU 7 rfl rfl (fun _ => ycast_p (y_ix Try.underlying30 ts55 e0 rfl q42 q420 q421) q429) ?_
     obtain ⟨v43, c44, h⟩ := h
     refine qT 8 9 (fun h => Row h p41 (S_api_Inode.cells v43)) rfl rfl c44 (fun _ c => y_lda ts55 rfl rfl c) ?_
     refine wpA_loud (rs := [9]) (by kernel_rfl) rfl ?_
     refine mcons (step_of rfl ?_) mnil
     refine wpL_callv e4 (lcons rfl (lcons rfl lnil)) (a4_i _ _ _ _ h) rfl ?_
     intro r45 hp h
     refine qn ?_
     refine ⟨hs_dead rfl (hs_dead rfl hs_nil), ?_⟩
     refine qU 10 rfl rfl (fun _ => y_bin rfl rfl (bin_lss _ _ _)) ?_
     refine qU 11 rfl rfl (fun _ => y_not rfl) ?_
     refine qt (by kernel_rfl) ?_
     refine qc rfl h (fun h => ?_) fun h => ?_
     ·refine qr ?_
      refine qm ?_
      refine qy rfl (y_bin rfl rfl (bin_add _ _ _)) ?_
      refine qa ?_
      refine qn ?_
      obtain ⟨m, hm, h⟩ := h
      exact ⟨m, hm, (IntKind.wrap .i64 ((IntKind.wrap .i64 (iShr .u64 (IntKind.wrap .u64 (IntKind.wrap .i64 (u33.1 + u33.2))) (1 : Int))) + (1 : Int)), u33.2), ⟨rfl, e15, e0, e2, e4, trivial⟩, h⟩
     ·refine qr ?_
      refine qm ?_
      refine qa ?_
      refine qn ?_
      obtain ⟨m, hm, h⟩ := h
      exact ⟨m, hm, (u33.1, IntKind.wrap .i64 (iShr .u64 (IntKind.wrap .u64 (IntKind.wrap .i64 (u33.1 + u33.2))) (1 : Int))), ⟨e14, rfl, e0, e2, e4, trivial⟩, h⟩
    ·refine wpE_exit ?_
     refine qe ?_
     refine qs ?_
     refine qm ?_
     refine qa ?_
     refine qn ?_
     refine wpE_block ?_
     obtain ⟨I50, m0, h, hI50⟩ := h
     refine wpE_loop (fun m ρ hp => ∃ u47 : Int, (ρ 17 = .int .i64 u47 ∧ ρ 0 = Sl.enc a0 ∧ ρ 14 = .int .i64 u33.1 ∧ True) ∧ I50 m u47 hp) (m := m0) ⟨a2, ⟨e2, e0, e14, trivial⟩, h⟩ ?_
     rintro m ρ hp ⟨u47, ⟨e17, e0, e14, _⟩, h⟩
     replace h := hI50 m u47 hp h
     refine qe ?_
     refine qs ?_
     iterate 2 refine qm ?_
     refine qy rfl (y_bin e17 e14 (bin_gtr _ _ _)) ?_
     refine qn ?_
     refine qc rfl h (fun h => ?_) fun h => ?_
     ·refine wpE_skip ?_
      refine qb ?_
      refine wpE_draw mixed rfl ?_
      refine qU 0 rfl rfl (fun _ => y_mv) ?_
      refine qU 1 rfl rfl (fun _ => y_mv) ?_
      refine qU 2 rfl rfl (fun _ => y_mv) ?_
      refine qU 3 rfl rfl (fun _ => y_mv) ?_
      refine qU 4 rfl rfl (fun _ => y_bin e17 rfl (bin_sub _ _ _)) ?_
      refine qU 5 rfl rfl (fun _ => y_mv) ?_
      refine qU 6 rfl rfl (fun _ => y_mv) ?_
      refine qU 7 rfl rfl (fun _ => y_bin e17 rfl (bin_sub _ _ _)) ?_
      obtain ⟨p510, q52, q520, q521, h⟩ := h
      generalize q529 : p510.add (_ * _) = p51 at h
      refine qU 8 rfl rfl (fun _ => ycast_p (y_ix Try.underlying30 ts55 e0 rfl q52 q520 q521) q529) ?_
      obtain ⟨v53, c54, h⟩ := h
      refine qT 9 15 (fun h => Row h p51 (S_api_Inode.cells v53)) rfl rfl c54 (fun _ c => y_lda ts55 rfl rfl c) ?_
      refine qU 10 rfl rfl (fun _ => y_mv) ?_
      refine qU 11 rfl rfl (fun _ => y_mv) ?_
      obtain ⟨p550, q56, q560, q561, h⟩ := h
      generalize q569 : p550.add (_ * _) = p55 at h
      refine qU 12 rfl rfl (fun _ => ycast_p (y_ix Try.underlying30 ts55 e0 e17 q56 q560 q561) q569) ?_
      obtain ⟨v57, c58, h⟩ := h
      refine qT 13 15 (fun h => Row h p55 (S_api_Inode.cells v57)) rfl rfl c58 (fun _ c => y_lda ts55 rfl rfl c) ?_
      obtain ⟨p590, q60, q600, q601, h⟩ := h
      generalize q609 : p590.add (_ * _) = p59 at h
      refine qU 14 rfl rfl (fun _ => ycast_p (y_ix Try.underlying30 ts55 e0 e17 q60 q600 q601) q609) ?_
      refine wpA_loud (rs := [15]) (by kernel_rfl) rfl ?_
      refine mcons (step_of rfl ?_) mnil
      refine wpL_sta ts55 rfl rfl rfl rfl h ?_
      generalize setCells _ _ _ _ = hp
      intro h
      refine qn ?_
      refine ⟨hs_dead rfl (hs_dead rfl hs_nil), ?_⟩
      obtain ⟨p620, q63, q630, q631, h⟩ := h
      generalize q639 : p620.add (_ * _) = p62 at h
      refine qU 16 rfl rfl (fun _ => ycast_p (y_ix Try.underlying30 ts55 e0 rfl q63 q630 q631) q639) ?_
      refine wpA_loud (rs := [17]) (by kernel_rfl) rfl ?_
      refine mcons (step_of rfl ?_) mnil
      refine wpL_sta ts55 rfl rfl rfl rfl h ?_
      generalize setCells _ _ _ _ = hp
      intro h
      refine qn ?_
      refine ⟨hs_dead rfl (hs_dead rfl hs_nil), ?_⟩
      refine qt (by kernel_rfl) ?_
      refine qr ?_
      refine qm ?_
      refine qy rfl (y_bin e17 rfl (bin_sub _ _ _)) ?_
      refine qa ?_
      refine qn ?_
      obtain ⟨m, hm, h⟩ := h
      exact ⟨m, hm, (IntKind.wrap .i64 (u47 - (1 : Int))), ⟨rfl, e0, e14, trivial⟩, h⟩
     ·refine wpE_exit ?_
      refine wpE_ret ?_
      exact body_r () rfl rs_nil rfl h
   ·refine wpE_skip ?_
    refine qs ?_
    iterate 2 refine qm ?_
    refine qy rfl (y_bin rfl rfl (bin_add _ _ _)) ?_
    refine qy rfl (y_cvi Try.underlying3 Try.underlying36 rfl) ?_
    refine qy rfl (y_bin rfl rfl (bin_shr _ _ _ (by decide))) ?_
    refine qy rfl (y_cvi Try.underlying36 Try.underlying3 rfl) ?_
    refine qa ?_
    refine qn ?_
    refine qs ?_
    iterate 2 refine qm ?_
    refine qy rfl (y_bin rfl rfl (bin_add _ _ _)) ?_
    refine qa ?_
    refine qn ?_
    refine qs ?_
    iterate 2 refine qa ?_
    refine qn ?_
    obtain ⟨K66, jK66, h⟩ := h
    refine wpE_seqJH K66 (fun (x65 : Int × Int) (ρ : Env) (hp : Hp) => ρ 20 = .int .i64 x65.1 ∧ ρ 21 = .int .i64 x65.2 ∧ ρ 0 = Sl.enc a0 ∧ ρ 1 = .int .i64 a1 ∧ ρ 2 = .int .i64 a2 ∧ ρ 3 = .int .i64 a3 ∧ ρ 4 = a4 ∧ ρ 18 = .int .i64 (IntKind.wrap .i64 (iShr .u64 (IntKind.wrap .u64 (IntKind.wrap .i64 (a1 + a3))) (1 : Int))) ∧ ρ 19 = .int .i64 (IntKind.wrap .i64 ((IntKind.wrap .i64 (iShr .u64 (IntKind.wrap .u64 (IntKind.wrap .i64 (a1 + a3))) (1 : Int))) + a2)) ∧ True) (fun ρ x65 hp f h => ?_) ?_
    ·obtain ⟨e20, e21, e0, e1, e2, e3, e4, e18, e19, _⟩ := f
     replace h := jK66 x65 hp h
     refine qs ?_
     refine qm ?_
     refine qy rfl (y_bin e19 rfl (bin_sub _ _ _)) ?_
     refine qa ?_
     refine qn ?_
     refine qb ?_
     obtain ⟨I71, m0, h, hI71⟩ := h
     refine wpE_loop (fun m ρ hp => ∃ u68 : Int × Int, (ρ 20 = .int .i64 u68.1 ∧ ρ 21 = .int .i64 u68.2 ∧ ρ 0 = Sl.enc a0 ∧ ρ 1 = .int .i64 a1 ∧ ρ 2 = .int .i64 a2 ∧ ρ 3 = .int .i64 a3 ∧ ρ 4 = a4 ∧ ρ 18 = .int .i64 (IntKind.wrap .i64 (iShr .u64 (IntKind.wrap .u64 (IntKind.wrap .i64 (a1 + a3))) (1 : Int))) ∧ ρ 19 = .int .i64 (IntKind.wrap .i64 ((IntKind.wrap .i64 (iShr .u64 (IntKind.wrap .u64 (IntKind.wrap .i64 (a1 + a3))) (1 : Int))) + a2)) ∧ ρ 22 = .int .i64 (IntKind.wrap .i64 ((IntKind.wrap .i64 ((IntKind.wrap .i64 (iShr .u64 (IntKind.wrap .u64 (IntKind.wrap .i64 (a1 + a3))) (1 : Int))) + a2)) - (1 : Int))) ∧ True) ∧ I71 m u68 hp) (m := m0) ⟨(x65.1, x65.2), ⟨e20, e21, e0, e1, e2, e3, e4, e18, e19, rfl, trivial⟩, h⟩ ?_
     rintro m ρ hp ⟨u68, ⟨e20, e21, e0, e1, e2, e3, e4, e18, e19, e22, _⟩, h⟩
     replace h := hI71 m u68 hp h
     refine qe ?_
     refine qs ?_
     iterate 2 refine qm ?_
     refine qy rfl (y_bin e20 e21 (bin_lss _ _ _)) ?_
     refine qn ?_
     refine qc rfl h (fun h => ?_) fun h => ?_
     ·refine wpE_skip ?_
      refine wpE_block ?_
      refine qs ?_
      iterate 2 refine qm ?_
      refine qy rfl (y_bin e20 e21 (bin_add _ _ _)) ?_
      refine qy rfl (y_cvi Try.underlying3 Try.underlying36 rfl) ?_
      refine qy rfl (y_bin rfl rfl (bin_shr _ _ _ (by decide))) ?_
      refine qy rfl (y_cvi Try.underlying36 Try.underlying3 rfl) ?_
      refine qa ?_
      refine qn ?_
      refine qe ?_
      refine wpE_draw mixed rfl ?_
      refine qU 0 rfl rfl (fun _ => y_mv) ?_
      refine qU 1 rfl rfl (fun _ => y_mv) ?_
      refine qU 2 rfl rfl (fun _ => y_mv) ?_
      refine qU 3 rfl rfl (fun _ => y_mv) ?_
      refine qU 4 rfl rfl (fun _ => y_bin e22 rfl (bin_sub _ _ _)) ?_
      obtain ⟨p720, q73, q730, q731, h⟩ := h
      generalize q739 : p720.add (_ * _) = p72 at h
      refine qU 5 rfl rfl (fun _ => ycast_p (y_ix Try.underlying30 ts55 e0 rfl q73 q730 q731) q739) ?_
      obtain ⟨v74, c75, h⟩ := h
      refine qT 6 11 (fun h => Row h p72 (S_api_Inode.cells v74)) rfl rfl c75 (fun _ c => y_lda ts55 rfl rfl c) ?_
      refine qU 7 rfl rfl (fun _ => y_mv) ?_
      refine qU 8 rfl rfl (fun _ => y_mv) ?_
      obtain ⟨p760, q77, q770, q771, h⟩ := h
      generalize q779 : p760.add (_ * _) = p76 at h
      refine qU 9 rfl rfl (fun _ => ycast_p (y_ix Try.underlying30 ts55 e0 rfl q77 q770 q771) q779) ?_
      obtain ⟨v78, c79, h⟩ := h
      refine qT 10 11 (fun h => Row h p76 (S_api_Inode.cells v78)) rfl rfl c79 (fun _ c => y_lda ts55 rfl rfl c) ?_
      refine wpA_loud (rs := [11]) (by kernel_rfl) rfl ?_
      refine mcons (step_of rfl ?_) mnil
      refine wpL_callv e4 (lcons rfl (lcons rfl lnil)) (a4_i _ _ _ _ h) rfl ?_
      intro r80 hp h
      refine qn ?_
      refine ⟨hs_dead rfl (hs_dead rfl hs_nil), ?_⟩
      refine qU 12 rfl rfl (fun _ => y_bin rfl rfl (bin_lss _ _ _)) ?_
      refine qU 13 rfl rfl (fun _ => y_not rfl) ?_
      refine qt (by kernel_rfl) ?_
      refine qc rfl h (fun h => ?_) fun h => ?_
      ·refine qr ?_
       refine qm ?_
       refine qy rfl (y_bin rfl rfl (bin_add _ _ _)) ?_
       refine qa ?_
       refine qn ?_
       obtain ⟨m, hm, h⟩ := h
       exact ⟨m, hm, (IntKind.wrap .i64 ((IntKind.wrap .i64 (iShr .u64 (IntKind.wrap .u64 (IntKind.wrap .i64 (u68.1 + u68.2))) (1 : Int))) + (1 : Int)), u68.2), ⟨rfl, e21, e0, e1, e2, e3, e4, e18, e19, e22, trivial⟩, h⟩
      ·refine qr ?_
       refine qm ?_
       refine qa ?_
       refine qn ?_
       obtain ⟨m, hm, h⟩ := h
       exact ⟨m, hm, (u68.1, IntKind.wrap .i64 (iShr .u64 (IntKind.wrap .u64 (IntKind.wrap .i64 (u68.1 + u68.2))) (1 : Int))), ⟨e20, rfl, e0, e1, e2, e3, e4, e18, e19, e22, trivial⟩, h⟩
     ·refine wpE_exit ?_
      refine qs ?_
      iterate 2 refine qm ?_
      refine qy rfl (y_bin e19 e20 (bin_sub _ _ _)) ?_
      refine qa ?_
      refine qn ?_
      obtain ⟨K83, jK83, h⟩ := h
      refine wpE_seqJH K83 (fun (x82 : Unit) (ρ : Env) (hp : Hp) => ρ 0 = Sl.enc a0 ∧ ρ 1 = .int .i64 a1 ∧ ρ 3 = .int .i64 a3 ∧ ρ 4 = a4 ∧ ρ 18 = .int .i64 (IntKind.wrap .i64 (iShr .u64 (IntKind.wrap .u64 (IntKind.wrap .i64 (a1 + a3))) (1 : Int))) ∧ ρ 20 = .int .i64 u68.1 ∧ ρ 24 = .int .i64 (IntKind.wrap .i64 ((IntKind.wrap .i64 ((IntKind.wrap .i64 (iShr .u64 (IntKind.wrap .u64 (IntKind.wrap .i64 (a1 + a3))) (1 : Int))) + a2)) - u68.1)) ∧ True) (fun ρ x82 hp f h => ?_) ?_
      ·obtain ⟨e0, e1, e3, e4, e18, e20, e24, _⟩ := f
       replace h := jK83 x82 hp h
       obtain ⟨K86, jK86, h⟩ := h
       refine wpE_seqJH K86 (fun (x85 : Unit) (ρ : Env) (hp : Hp) => ρ 0 = Sl.enc a0 ∧ ρ 3 = .int .i64 a3 ∧ ρ 4 = a4 ∧ ρ 18 = .int .i64 (IntKind.wrap .i64 (iShr .u64 (IntKind.wrap .u64 (IntKind.wrap .i64 (a1 + a3))) (1 : Int))) ∧ ρ 24 = .int .i64 (IntKind.wrap .i64 ((IntKind.wrap .i64 ((IntKind.wrap .i64 (iShr .u64 (IntKind.wrap .u64 (IntKind.wrap .i64 (a1 + a3))) (1 : Int))) + a2)) - u68.1)) ∧ True) (fun ρ x85 hp f h => ?_) ?_
       ·obtain ⟨e0, e3, e4, e18, e24, _⟩ := f
        replace h := jK86 x85 hp h
        obtain ⟨K89, jK89, h⟩ := h
        refine wpE_seqJH K89 (fun (x88 : Bool) (ρ : Env) (hp : Hp) => ρ 213 = .bool x88 ∧ ρ 0 = Sl.enc a0 ∧ ρ 3 = .int .i64 a3 ∧ ρ 4 = a4 ∧ ρ 18 = .int .i64 (IntKind.wrap .i64 (iShr .u64 (IntKind.wrap .u64 (IntKind.wrap .i64 (a1 + a3))) (1 : Int))) ∧ ρ 24 = .int .i64 (IntKind.wrap .i64 ((IntKind.wrap .i64 ((IntKind.wrap .i64 (iShr .u64 (IntKind.wrap .u64 (IntKind.wrap .i64 (a1 + a3))) (1 : Int))) + a2)) - u68.1)) ∧ True) (fun ρ x88 hp f h => ?_) ?_
        ·obtain ⟨e213, e0, e3, e4, e18, e24, _⟩ := f
         replace h := jK89 x88 hp h
         refine qc e213 h (fun h => ?_) fun h => ?_
         ·refine qr ?_
          iterate 5 refine qm ?_
          refine wpL_call (vs := [Sl.enc a0, .int .i64 (IntKind.wrap .i64 (iShr .u64 (IntKind.wrap .u64 (IntKind.wrap .i64 (a1 + a3))) (1 : Int))), .int .i64 (IntKind.wrap .i64 ((IntKind.wrap .i64 ((IntKind.wrap .i64 (iShr .u64 (IntKind.wrap .u64 (IntKind.wrap .i64 (a1 + a3))) (1 : Int))) + a2)) - u68.1)), .int .i64 a3, a4]) tc77 (lcons e0 (lcons e18 (lcons e24 (lcons e3 (lcons e4 lnil))))) (ih_slices_symMergeCmpFunc_api_Inode a4_i h) rfl ?_
          intro r91 hp h
          refine qn ?_
          exact body_n () rfl rs_nil rfl h
         ·refine wpE_skip ?_
          exact body_n () rfl rs_nil rfl h
        ·refine qr ?_
         iterate 2 refine qm ?_
         refine qy rfl (y_bin e18 e24 (bin_lss _ _ _)) ?_
         refine qm ?_
         refine wpL_split h (fun g93 h => ?_) (fun g93 h => ?_)
         ·refine qg rfl g93 ?_
          refine qm ?_
          refine qg rfl g93 ?_
          refine qm ?_
          refine qg rfl g93 ?_
          refine qy rfl (y_bin e24 e3 (bin_lss _ _ _)) ?_
          refine qy rfl (y_pickt (vbool rfl g93)) ?_
          refine qn ?_
          exact ⟨(decide ((IntKind.wrap .i64 ((IntKind.wrap .i64 ((IntKind.wrap .i64 (iShr .u64 (IntKind.wrap .u64 (IntKind.wrap .i64 (a1 + a3))) (1 : Int))) + a2)) - u68.1)) < a3)), ⟨rfl, e0, e3, e4, e18, e24, trivial⟩, h⟩
         ·refine qp rfl g93 ?_
          iterate 2 refine qp rfl g93 ?_
          refine qy rfl (y_pickf (vbool rfl g93)) ?_
          refine qn ?_
          exact ⟨false, ⟨rfl, e0, e3, e4, e18, e24, trivial⟩, h⟩
       ·obtain ⟨K95, jK95, h⟩ := h
        refine wpE_seqJH K95 (fun (x94 : Bool) (ρ : Env) (hp : Hp) => ρ 199 = .bool x94 ∧ ρ 0 = Sl.enc a0 ∧ ρ 1 = .int .i64 a1 ∧ ρ 3 = .int .i64 a3 ∧ ρ 4 = a4 ∧ ρ 18 = .int .i64 (IntKind.wrap .i64 (iShr .u64 (IntKind.wrap .u64 (IntKind.wrap .i64 (a1 + a3))) (1 : Int))) ∧ ρ 20 = .int .i64 u68.1 ∧ ρ 24 = .int .i64 (IntKind.wrap .i64 ((IntKind.wrap .i64 ((IntKind.wrap .i64 (iShr .u64 (IntKind.wrap .u64 (IntKind.wrap .i64 (a1 + a3))) (1 : Int))) + a2)) - u68.1)) ∧ True) (fun ρ x94 hp f h => ?_) ?_
        ·obtain ⟨e199, e0, e1, e3, e4, e18, e20, e24, _⟩ := f
         replace h := jK95 x94 hp h
         refine qc e199 h (fun h => ?_) fun h => ?_
         ·refine qr ?_
          iterate 5 refine qm ?_
          refine wpL_call (vs := [Sl.enc a0, .int .i64 a1, .int .i64 u68.1, .int .i64 (IntKind.wrap .i64 (iShr .u64 (IntKind.wrap .u64 (IntKind.wrap .i64 (a1 + a3))) (1 : Int))), a4]) tc77 (lcons e0 (lcons e1 (lcons e20 (lcons e18 (lcons e4 lnil))))) (ih_slices_symMergeCmpFunc_api_Inode a4_i h) rfl ?_
          intro r97 hp h
          refine qn ?_
          exact ⟨(), ⟨e0, e3, e4, e18, e24, trivial⟩, h⟩
         ·refine wpE_skip ?_
          exact ⟨(), ⟨e0, e3, e4, e18, e24, trivial⟩, h⟩
        ·refine qr ?_
         iterate 2 refine qm ?_
         refine qy rfl (y_bin e1 e20 (bin_lss _ _ _)) ?_
         refine qm ?_
         refine wpL_split h (fun g99 h => ?_) (fun g99 h => ?_)
         ·refine qg rfl g99 ?_
          refine qm ?_
          refine qg rfl g99 ?_
          refine qm ?_
          refine qg rfl g99 ?_
          refine qy rfl (y_bin e20 e18 (bin_lss _ _ _)) ?_
          refine qy rfl (y_pickt (vbool rfl g99)) ?_
          refine qn ?_
          exact ⟨(decide (u68.1 < (IntKind.wrap .i64 (iShr .u64 (IntKind.wrap .u64 (IntKind.wrap .i64 (a1 + a3))) (1 : Int))))), ⟨rfl, e0, e1, e3, e4, e18, e20, e24, trivial⟩, h⟩
         ·refine qp rfl g99 ?_
          iterate 2 refine qp rfl g99 ?_
          refine qy rfl (y_pickf (vbool rfl g99)) ?_
          refine qn ?_
          exact ⟨false, ⟨rfl, e0, e1, e3, e4, e18, e20, e24, trivial⟩, h⟩
      ·obtain ⟨K101, jK101, h⟩ := h
       refine wpE_seqJH K101 (fun (x100 : Bool) (ρ : Env) (hp : Hp) => ρ 185 = .bool x100 ∧ ρ 0 = Sl.enc a0 ∧ ρ 1 = .int .i64 a1 ∧ ρ 2 = .int .i64 a2 ∧ ρ 3 = .int .i64 a3 ∧ ρ 4 = a4 ∧ ρ 18 = .int .i64 (IntKind.wrap .i64 (iShr .u64 (IntKind.wrap .u64 (IntKind.wrap .i64 (a1 + a3))) (1 : Int))) ∧ ρ 20 = .int .i64 u68.1 ∧ ρ 24 = .int .i64 (IntKind.wrap .i64 ((IntKind.wrap .i64 ((IntKind.wrap .i64 (iShr .u64 (IntKind.wrap .u64 (IntKind.wrap .i64 (a1 + a3))) (1 : Int))) + a2)) - u68.1)) ∧ True) (fun ρ x100 hp f h => ?_) ?_
       ·obtain ⟨e185, e0, e1, e2, e3, e4, e18, e20, e24, _⟩ := f
        replace h := jK101 x100 hp h
        refine qc e185 h (fun h => ?_) fun h => ?_
        ·refine qr ?_
         iterate 5 refine qm ?_
         refine wpL_call (vs := [Sl.enc a0, .int .i64 u68.1, .int .i64 a2, .int .i64 (IntKind.wrap .i64 ((IntKind.wrap .i64 ((IntKind.wrap .i64 (iShr .u64 (IntKind.wrap .u64 (IntKind.wrap .i64 (a1 + a3))) (1 : Int))) + a2)) - u68.1)), a4]) tc83 (lcons e0 (lcons e20 (lcons e2 (lcons e24 (lcons e4 lnil))))) (slices_rotateCmpFunc_api_Inode.lift a4_i h) rfl ?_
         intro r103 hp h
         refine qn ?_
         exact ⟨(), ⟨e0, e1, e3, e4, e18, e20, e24, trivial⟩, h⟩
        ·refine wpE_skip ?_
         exact ⟨(), ⟨e0, e1, e3, e4, e18, e20, e24, trivial⟩, h⟩
       ·refine qr ?_
        iterate 2 refine qm ?_
        refine qy rfl (y_bin e20 e2 (bin_lss _ _ _)) ?_
        refine qm ?_
        refine wpL_split h (fun g105 h => ?_) (fun g105 h => ?_)
        ·refine qg rfl g105 ?_
         refine qm ?_
         refine qg rfl g105 ?_
         refine qm ?_
         refine qg rfl g105 ?_
         refine qy rfl (y_bin e2 rfl (bin_lss _ _ _)) ?_
         refine qy rfl (y_pickt (vbool rfl g105)) ?_
         refine qn ?_
         exact ⟨(decide (a2 < (IntKind.wrap .i64 ((IntKind.wrap .i64 ((IntKind.wrap .i64 (iShr .u64 (IntKind.wrap .u64 (IntKind.wrap .i64 (a1 + a3))) (1 : Int))) + a2)) - u68.1)))), ⟨rfl, e0, e1, e2, e3, e4, e18, e20, rfl, trivial⟩, h⟩
        ·refine qp rfl g105 ?_
         iterate 2 refine qp rfl g105 ?_
         refine qy rfl (y_pickf (vbool rfl g105)) ?_
         refine qn ?_
         exact ⟨false, ⟨rfl, e0, e1, e2, e3, e4, e18, e20, rfl, trivial⟩, h⟩
    ·refine qs ?_
     iterate 2 refine qm ?_
     refine qy rfl (y_bin rfl rfl (bin_gtr _ _ _)) ?_
     refine qn ?_
     refine qc rfl h (fun h => ?_) fun h => ?_
     ·refine qs ?_
      iterate 2 refine qm ?_
      refine qy rfl (y_bin rfl rfl (bin_sub _ _ _)) ?_
      refine qa ?_
      refine qn ?_
      refine qr ?_
      refine qm ?_
      refine qa ?_
      refine qn ?_
      exact ⟨(IntKind.wrap .i64 ((IntKind.wrap .i64 ((IntKind.wrap .i64 (iShr .u64 (IntKind.wrap .u64 (IntKind.wrap .i64 (a1 + a3))) (1 : Int))) + a2)) - a3), IntKind.wrap .i64 (iShr .u64 (IntKind.wrap .u64 (IntKind.wrap .i64 (a1 + a3))) (1 : Int))), ⟨rfl, rfl, rfl, rfl, rfl, rfl, rfl, rfl, rfl, trivial⟩, h⟩
     ·refine qs ?_
      refine qm ?_
      refine qa ?_
      refine qn ?_
      refine qr ?_
      refine qm ?_
      refine qa ?_
      refine qn ?_
      exact ⟨(a1, a2), ⟨rfl, rfl, rfl, rfl, rfl, rfl, rfl, rfl, rfl, trivial⟩, h⟩

set_option maxHeartbeats 4000000 in
theorem slices_stableCmpFunc_api_Inode.lift {a0 : Sl} {a1 : Int} {a2 : Value} {a2_f : S_api_Inode → S_api_Inode → (Int → Hp → Prop) → Hp → Prop} (a2_i : ∀ x0 x1 Q h, a2_f x0 x1 Q h → CallsV Try.prog a2 [S_api_Inode.enc x0, S_api_Inode.enc x1] h (Rt (Value.int .i64) Q)) {Q : Unit → Hp → Prop} {hp : Hp} (h : slices_stableCmpFunc_api_Inode a0 a1 a2_f Q hp) : CallsH Try.prog 65 #[Sl.enc a0, .int .i64 a1, a2] hp (Rt (fun _ : Unit => .tuple #[]) Q) := by
 unfold slices_stableCmpFunc_api_Inode at h
 refine calls_of 63 Try.func65 rfl rfl ?_
 refine qs ?_
 refine qa ?_
 refine qn ?_
 refine qs ?_
 refine qm ?_
 iterate 2 refine qa ?_
 refine qn ?_
 refine qb ?_
 obtain ⟨I4, m0, h, hI4⟩ := h
 refine wpE_loop (fun m ρ hp => ∃ u1 : Int × Int, (ρ 7 = .int .i64 u1.1 ∧ ρ 8 = .int .i64 u1.2 ∧ ρ 0 = Sl.enc a0 ∧ ρ 1 = .int .i64 a1 ∧ ρ 2 = a2 ∧ ρ 6 = .int .i64 20 ∧ True) ∧ I4 m u1 hp) (m := m0) ⟨(0, 20), ⟨rfl, rfl, rfl, rfl, rfl, rfl, trivial⟩, h⟩ ?_
 rintro m ρ hp ⟨u1, ⟨e7, e8, e0, e1, e2, e6, _⟩, h⟩
 replace h := hI4 m u1 hp h
 refine qe ?_
 refine qs ?_
 iterate 2 refine qm ?_
 refine qy rfl (y_bin e8 e1 (bin_leq _ _ _)) ?_
 refine qn ?_
 refine qc rfl h (fun h => ?_) fun h => ?_
 ·refine wpE_skip ?_
  refine wpE_block ?_
  refine qs ?_
  iterate 4 refine qm ?_
  refine wpL_call (vs := [Sl.enc a0, .int .i64 u1.1, .int .i64 u1.2, a2]) tc76 (lcons e0 (lcons e7 (lcons e8 (lcons e2 lnil)))) (slices_insertionSortCmpFunc_api_Inode.lift a2_i h) rfl ?_
  intro r5 hp h
  refine qn ?_
  refine qs ?_
  refine qm ?_
  refine qa ?_
  refine qn ?_
  refine qr ?_
  iterate 2 refine qm ?_
  refine qy rfl (y_bin e8 e6 (bin_add _ _ _)) ?_
  refine qa ?_
  refine qn ?_
  obtain ⟨m, hm, h⟩ := h
  exact ⟨m, hm, (u1.2, IntKind.wrap .i64 (u1.2 + (20 : Int))), ⟨e8, rfl, e0, e1, e2, e6, trivial⟩, h⟩
 ·refine wpE_exit ?_
  refine qs ?_
  iterate 4 refine qm ?_
  refine wpL_call (vs := [Sl.enc a0, .int .i64 u1.1, .int .i64 a1, a2]) tc76 (lcons e0 (lcons e7 (lcons e1 (lcons e2 lnil)))) (slices_insertionSortCmpFunc_api_Inode.lift a2_i h) rfl ?_
  intro r7 hp h
  refine qn ?_
  refine wpE_block ?_
  obtain ⟨I12, m0, h, hI12⟩ := h
  refine wpE_loop (fun m ρ hp => ∃ u9 : Int, (ρ 6 = .int .i64 u9 ∧ ρ 0 = Sl.enc a0 ∧ ρ 1 = .int .i64 a1 ∧ ρ 2 = a2 ∧ True) ∧ I12 m u9 hp) (m := m0) ⟨20, ⟨e6, e0, e1, e2, trivial⟩, h⟩ ?_
  rintro m ρ hp ⟨u9, ⟨e6, e0, e1, e2, _⟩, h⟩
  replace h := hI12 m u9 hp h
  refine qe ?_
  refine qs ?_
  iterate 2 refine qm ?_
  refine qy rfl (y_bin e6 e1 (bin_lss _ _ _)) ?_
  refine qn ?_
  refine qc rfl h (fun h => ?_) fun h => ?_
  ·refine wpE_skip ?_
   refine wpE_block ?_
   refine qs ?_
   refine qm ?_
   refine qy rfl (y_bin rfl e6 (bin_mul _ _ _)) ?_
   iterate 2 refine qa ?_
   refine qn ?_
   refine qb ?_
   obtain ⟨I16, m0, h, hI16⟩ := h
   refine wpE_loop (fun m ρ hp => ∃ u13 : Int × Int, (ρ 7 = .int .i64 u13.1 ∧ ρ 8 = .int .i64 u13.2 ∧ ρ 0 = Sl.enc a0 ∧ ρ 1 = .int .i64 a1 ∧ ρ 2 = a2 ∧ ρ 6 = .int .i64 u9 ∧ True) ∧ I16 m u13 hp) (m := m0) ⟨(0, IntKind.wrap .i64 ((2 : Int) * u9)), ⟨rfl, rfl, e0, e1, e2, e6, trivial⟩, h⟩ ?_
   rintro m ρ hp ⟨u13, ⟨e7, e8, e0, e1, e2, e6, _⟩, h⟩
   replace h := hI16 m u13 hp h
   refine qe ?_
   refine qs ?_
   iterate 2 refine qm ?_
   refine qy rfl (y_bin e8 e1 (bin_leq _ _ _)) ?_
   refine qn ?_
   refine qc rfl h (fun h => ?_) fun h => ?_
   ·refine wpE_skip ?_
    refine wpE_block ?_
    refine qs ?_
    iterate 4 refine qm ?_
    refine qy rfl (y_bin e7 e6 (bin_add _ _ _)) ?_
    iterate 2 refine qm ?_
    obtain ⟨k0, h⟩ := h
    refine wpL_call (vs := [Sl.enc a0, .int .i64 u13.1, .int .i64 (IntKind.wrap .i64 (u13.1 + u9)), .int .i64 u13.2, a2]) tc77 (lcons e0 (lcons e7 (lcons rfl (lcons e8 (lcons e2 lnil))))) (slices_symMergeCmpFunc_api_Inode.lift k0 a2_i h) rfl ?_
    intro r17 hp h
    refine qn ?_
    refine qs ?_
    refine qm ?_
    refine qa ?_
    refine qn ?_
    refine qr ?_
    iterate 2 refine qm ?_
    refine qy rfl (y_bin rfl e6 (bin_mul _ _ _)) ?_
    refine qy rfl (y_bin e8 rfl (bin_add _ _ _)) ?_
    refine qa ?_
    refine qn ?_
    obtain ⟨m, hm, h⟩ := h
    exact ⟨m, hm, (u13.2, IntKind.wrap .i64 (u13.2 + (IntKind.wrap .i64 ((2 : Int) * u9)))), ⟨e8, rfl, e0, e1, e2, e6, trivial⟩, h⟩
   ·refine wpE_exit ?_
    obtain ⟨K20, jK20, h⟩ := h
    refine wpE_seqJH K20 (fun (x19 : Unit) (ρ : Env) (hp : Hp) => ρ 0 = Sl.enc a0 ∧ ρ 1 = .int .i64 a1 ∧ ρ 2 = a2 ∧ ρ 6 = .int .i64 u9 ∧ True) (fun ρ x19 hp f h => ?_) ?_
    ·obtain ⟨e0, e1, e2, e6, _⟩ := f
     replace h := jK20 x19 hp h
     refine qr ?_
     refine qm ?_
     refine qy rfl (y_bin e6 rfl (bin_mul _ _ _)) ?_
     refine qa ?_
     refine qn ?_
     obtain ⟨m, hm, h⟩ := h
     exact ⟨m, hm, (IntKind.wrap .i64 (u9 * (2 : Int))), ⟨rfl, e0, e1, e2, trivial⟩, h⟩
    ·refine qs ?_
     iterate 2 refine qm ?_
     refine qy rfl (y_bin e7 e6 (bin_add _ _ _)) ?_
     refine qa ?_
     refine qn ?_
     refine qs ?_
     iterate 2 refine qm ?_
     refine qy rfl (y_bin rfl e1 (bin_lss _ _ _)) ?_
     refine qn ?_
     refine qc rfl h (fun h => ?_) fun h => ?_
     ·refine qr ?_
      iterate 5 refine qm ?_
      obtain ⟨k0, h⟩ := h
      refine wpL_call (vs := [Sl.enc a0, .int .i64 u13.1, .int .i64 (IntKind.wrap .i64 (u13.1 + u9)), .int .i64 a1, a2]) tc77 (lcons e0 (lcons e7 (lcons rfl (lcons e1 (lcons e2 lnil))))) (slices_symMergeCmpFunc_api_Inode.lift k0 a2_i h) rfl ?_
      intro r22 hp h
      refine qn ?_
      exact ⟨(), ⟨e0, e1, e2, e6, trivial⟩, h⟩
     ·refine wpE_skip ?_
      exact ⟨(), ⟨e0, e1, e2, e6, trivial⟩, h⟩
  ·refine wpE_exit ?_
   exact body_n () rfl rs_nil rfl h

set_option maxHeartbeats 4000000 in
theorem slices_SortStableFunc_api_Inode_api_Inode.lift {a0 : Sl} {a1 : Value} {a1_f : S_api_Inode → S_api_Inode → (Int → Hp → Prop) → Hp → Prop} (a1_i : ∀ x0 x1 Q h, a1_f x0 x1 Q h → CallsV Try.prog a1 [S_api_Inode.enc x0, S_api_Inode.enc x1] h (Rt (Value.int .i64) Q)) {Q : Unit → Hp → Prop} {hp : Hp} (h : slices_SortStableFunc_api_Inode_api_Inode a0 a1_f Q hp) : CallsH Try.prog 39 #[Sl.enc a0, a1] hp (Rt (fun _ : Unit => .tuple #[]) Q) := by
 unfold slices_SortStableFunc_api_Inode_api_Inode at h
 refine calls_of 9 Try.func39 rfl rfl ?_
 refine qr ?_
 iterate 2 refine qm ?_
 refine qy rfl (y_lensl Try.underlying30 (lcons rfl lnil)) ?_
 refine qm ?_
 refine wpL_call (vs := [Sl.enc a0, .int .i64 (a0.len : Int), a1]) tc65 (lcons rfl (lcons rfl (lcons rfl lnil))) (slices_stableCmpFunc_api_Inode.lift a1_i h) rfl ?_
 intro r1 hp h
 refine qn ?_
 exact body_n () rfl rs_nil rfl h

set_option maxHeartbeats 4000000 in
theorem join_merged_api_Inode.lift {a0 : Sl} {a1 : Sl} {a2 : Value} {a2_f : S_api_Inode → S_api_Inode → (Int → Hp → Prop) → Hp → Prop} (a2_i : ∀ x0 x1 Q h, a2_f x0 x1 Q h → CallsV Try.prog a2 [S_api_Inode.enc x0, S_api_Inode.enc x1] h (Rt (Value.int .i64) Q)) {a3 : Value} {a3_f : S_api_Inode → S_api_Inode → (S_api_Inode → Hp → Prop) → Hp → Prop} (a3_i : ∀ x0 x1 Q h, a3_f x0 x1 Q h → CallsV Try.prog a3 [S_api_Inode.enc x0, S_api_Inode.enc x1] h (Rt S_api_Inode.enc Q)) {Q : Sl → Hp → Prop} {hp : Hp} (h : join_merged_api_Inode a0 a1 a2_f a3_f Q hp) : CallsH Try.prog 25 #[Sl.enc a0, Sl.enc a1, a2, a3] hp (Rt Sl.enc Q) := by
 unfold join_merged_api_Inode at h
 refine calls_of 60 Try.func25 rfl rfl ?_
 refine qs ?_
 refine qa ?_
 refine qn ?_
 refine qs ?_
 refine qa ?_
 refine qn ?_
 refine qs ?_
 iterate 2 refine qm ?_
 refine wpL_bsl Try.underlying111 ts30 tz30 rfl rfl rfl (pcons rfl (pcons rfl rfl)) rfl h rfl ?_
 intro b1 hp h
 refine wpL_call (vs := [Sl.enc (Sl.mk (some b1) 2 2)]) tc38 (lcons rfl lnil) (slices_Concat_api_Inode_api_Inode.lift h) rfl ?_
 intro r3 hp h
 refine qa ?_
 refine qn ?_
 refine qs ?_
 iterate 2 refine qm ?_
 refine wpL_call (vs := [Sl.enc r3, a2]) tc39 (lcons rfl (lcons rfl lnil)) (slices_SortStableFunc_api_Inode_api_Inode.lift a2_i h) rfl ?_
 intro r5 hp h
 refine qn ?_
 refine qe ?_
 refine qs ?_
 refine qm ?_
 refine qy rfl (y_lensl Try.underlying30 (lcons rfl lnil)) ?_
 refine qm ?_
 refine qn ?_
 refine wpE_block ?_
 obtain ⟨I10, m0, h, hI10⟩ := h
 refine wpE_loop (fun m ρ hp => ∃ u7 : Sl × Int, (ρ 9 = Sl.enc u7.1 ∧ ρ 23 = .int .i64 u7.2 ∧ ρ 2 = a2 ∧ ρ 3 = a3 ∧ ρ 21 = Sl.enc r3 ∧ ρ 22 = .int .i64 (r3.len : Int) ∧ True) ∧ I10 m u7 hp) (m := m0) ⟨(Sl.nil, 0), ⟨rfl, rfl, rfl, rfl, rfl, rfl, trivial⟩, h⟩ ?_
 rintro m ρ hp ⟨u7, ⟨e9, e23, e2, e3, e21, e22, _⟩, h⟩
 replace h := hI10 m u7 hp h
 refine qs ?_
 refine qy rfl (y_bin e23 e22 (bin_lss _ _ _)) ?_
 refine qn ?_
 refine qe ?_
 refine qc rfl h (fun h => ?_) fun h => ?_
 ·refine wpE_skip ?_
  obtain ⟨K12, jK12, h⟩ := h
  refine wpE_seqJH K12 (fun (x11 : Sl) (ρ : Env) (hp : Hp) => ρ 9 = Sl.enc x11 ∧ ρ 2 = a2 ∧ ρ 3 = a3 ∧ ρ 21 = Sl.enc r3 ∧ ρ 22 = .int .i64 (r3.len : Int) ∧ ρ 23 = .int .i64 u7.2 ∧ True) (fun ρ x11 hp f h => ?_) ?_
  ·obtain ⟨e9, e2, e3, e21, e22, e23, _⟩ := f
   replace h := jK12 x11 hp h
   refine qr ?_
   refine qy rfl (y_bin e23 rfl (bin_add _ _ _)) ?_
   refine qm ?_
   refine qn ?_
   obtain ⟨m, hm, h⟩ := h
   exact ⟨m, hm, (x11, IntKind.wrap .i64 (u7.2 + (1 : Int))), ⟨e9, rfl, e2, e3, e21, e22, trivial⟩, h⟩
  ·refine wpE_block ?_
   refine qs ?_
   obtain ⟨p140, q15, q150, q151, h⟩ := h
   generalize q159 : p140.add (_ * _) = p14 at h
   refine qy rfl (ycast_p (y_ix Try.underlying30 ts55 e21 e23 q15 q150 q151) q159) ?_
   obtain ⟨v16, c17, h⟩ := h
   refine qy rfl (y_lda ts55 rfl rfl c17) ?_
   refine wpL_allocX (zs := (S_api_Inode.cells (S_api_Inode.mk (S_api_Stamp.mk 0 0) 0 [] (S_api_Attr.mk (S_api_Stamp.mk 0 0) 0 0) (S_api_Size.mk (S_api_Stamp.mk 0 0) 0) Sl.nil Sl.nil))) tz55 rfl Bx.nil h rfl ?_
   intro b18 hp h bx
   refine wpL_staX (L' := [(b18, (S_api_Inode.cells v16))]) (i := 0) (off := 0) (cs' := (S_api_Inode.cells v16)) ts55 rfl rfl rfl rfl bx rfl (by kernel_rfl) h (by kernel_rfl) (by kernel_rfl) ?_
   intro hp h bx
   refine qn ?_
   refine qe ?_
   refine qs ?_
   refine qm ?_
   refine qy rfl (y_lensl Try.underlying30 (lcons e9 lnil)) ?_
   refine qa ?_
   refine qn ?_
   obtain ⟨K22, jK22, h⟩ := h
   refine wpE_seqJH K22 (fun (x21 : Bool) (ρ : Env) (hp : Hp) => ρ 41 = .bool x21 ∧ ρ 2 = a2 ∧ ρ 3 = a3 ∧ ρ 9 = Sl.enc u7.1 ∧ ρ 12 = .pointer (some b18) ∧ ρ 13 = .int .i64 (u7.1.len : Int) ∧ ρ 21 = Sl.enc r3 ∧ ρ 22 = .int .i64 (r3.len : Int) ∧ ρ 23 = .int .i64 u7.2 ∧ Bx hp [(b18, (S_api_Inode.cells v16))]) (fun ρ x21 hp f h => ?_) ?_
   ·obtain ⟨e41, e2, e3, e9, e12, e13, e21, e22, e23, bx⟩ := f
    replace h := jK22 x21 hp h
    refine qc e41 h (fun h => ?_) fun h => ?_
    ·refine qe ?_
     refine wpE_draw mixed rfl ?_
     refine qU 0 rfl rfl (fun _ => y_mv) ?_
     refine qU 1 rfl rfl (fun _ => y_mv) ?_
     refine qU 2 rfl rfl (fun _ => y_bin e13 rfl (bin_sub _ _ _)) ?_
     refine qU 3 rfl rfl (fun _ => y_mv) ?_
     refine qU 4 rfl rfl (fun _ => y_mv) ?_
     refine qU 5 rfl rfl (fun _ => y_mv) ?_
     refine qU 6 rfl rfl (fun _ => y_bin e13 rfl (bin_sub _ _ _)) ?_
     obtain ⟨p240, q25, q250, q251, h⟩ := h
     generalize q259 : p240.add (_ * _) = p24 at h
     refine qU 7 rfl rfl (fun _ => ycast_p (y_ix Try.underlying30 ts55 e9 rfl q25 q250 q251) q259) ?_
     obtain ⟨v26, c27, h⟩ := h
     refine qT 8 10 (fun h => Row h p24 (S_api_Inode.cells v26)) rfl rfl c27 (fun _ c => y_lda ts55 rfl rfl c) ?_
     refine qT 9 10 (fun h => Row h b18 (S_api_Inode.cells v16)) rfl rfl (Bx.row bx 0 0 rfl (by kernel_rfl)) (fun _ c => y_lda (cs := (S_api_Inode.cells v16)) ts55 rfl e12 c) ?_
     refine wpA_loud (rs := [10]) (by kernel_rfl) rfl ?_
     refine mcons (step_of rfl ?_) mnil
     refine wpL_callv e3 (lcons rfl (lcons rfl lnil)) (a3_i _ _ _ _ h) rfl ?_
     intro r28 hp h
     refine qn ?_
     refine ⟨hs_dead rfl (hs_dead rfl hs_nil), ?_⟩
     obtain ⟨p300, q31, q310, q311, h⟩ := h
     generalize q319 : p300.add (_ * _) = p30 at h
     refine qU 11 rfl rfl (fun _ => ycast_p (y_ix Try.underlying30 ts55 e9 rfl q31 q310 q311) q319) ?_
     refine wpA_loud (rs := [12]) (by kernel_rfl) rfl ?_
     refine mcons (step_of rfl ?_) mnil
     refine wpL_sta ts55 rfl rfl rfl rfl h ?_
     generalize setCells _ _ _ _ = hp
     intro h
     refine qn ?_
     refine ⟨hs_dead rfl (hs_dead rfl hs_nil), ?_⟩
     refine qt (by kernel_rfl) ?_
     refine wpE_exit ?_
     exact ⟨u7.1, ⟨e9, e2, e3, e21, e22, e23, trivial⟩, h⟩
    ·refine wpE_skip ?_
     refine qr ?_
     refine qm ?_
     refine qy rfl (y_lda (cs := (S_api_Inode.cells v16)) ts55 rfl e12 (Bx.row bx 0 0 rfl (by kernel_rfl))) ?_
     refine wpL_bsf Try.underlying30 ts55 tz55 rfl rfl (pcons rfl rfl) (full_cons rfl rfl full_nil) rfl h rfl ?_
     intro b33 hp h
     refine wpL_appsI Try.underlying30 Try.underlying30 ts55 ti55 (by decide) tz55 rfl (lcons e9 (lcons rfl lnil)) h rfl ?_
     intro v35 hp h
     refine qa ?_
     refine qn ?_
     exact ⟨v35, ⟨rfl, e2, e3, e21, e22, e23, trivial⟩, h⟩
   ·refine wpE_draw mixed rfl ?_
    refine qU 0 rfl rfl (fun _ => y_mv) ?_
    refine qU 1 rfl rfl (fun _ => y_bin rfl rfl (bin_gtr _ _ _)) ?_
    refine qU 2 rfl rfl (fun _ => y_mv) ?_
    refine wpA_split h (fun g37 h => ?_) (fun g37 h => ?_)
    ·refine qV 3 rfl rfl g37 (fun _ => y_mv) ?_
     refine qV 4 rfl rfl g37 (fun _ => y_mv) ?_
     refine qV 5 rfl rfl g37 (fun _ => y_mv) ?_
     refine qV 6 rfl rfl g37 (fun _ => y_bin rfl rfl (bin_sub _ _ _)) ?_
     obtain ⟨p380, q39, q390, q391, h⟩ := h
     generalize q399 : p380.add (_ * _) = p38 at h
     refine qV 7 rfl rfl g37 (fun _ => ycast_p (y_ix Try.underlying30 ts55 e9 rfl q39 q390 q391) q399) ?_
     obtain ⟨v40, c41, h⟩ := h
     refine wpA_take (i := 8) (kk := 10) (fun h => Row h p38 (S_api_Inode.cells v40)) rfl rfl rfl (by kernel_rfl) (by kernel_rfl) (wt_bool rfl rfl rfl (vbool rfl g37) rfl) (fun _ _ _ _ h => h) c41 (fun _ c => y_lda ts55 rfl rfl c) ?_
     refine wpA_take (i := 9) (kk := 10) (fun h => Row h b18 (S_api_Inode.cells v16)) rfl rfl rfl (by kernel_rfl) (by kernel_rfl) (wt_bool rfl rfl rfl (vbool rfl g37) rfl) (fun _ _ _ _ h => h) (Bx.row bx 0 0 rfl (by kernel_rfl)) (fun _ c => y_lda (cs := (S_api_Inode.cells v16)) ts55 rfl rfl c) ?_
     refine wpA_loud (rs := [10]) (by kernel_rfl) rfl ?_
     refine mcons (step_of rfl ?_) mnil
     refine qg rfl g37 ?_
     refine wpL_callv e2 (lcons rfl (lcons rfl lnil)) (a2_i _ _ _ _ h) rfl ?_
     intro r42 hp h
     obtain ⟨kx, h⟩ := h
     replace bx := Bx.keep bx kx rfl
     refine qn ?_
     refine ⟨hs_dead rfl (hs_dead rfl hs_nil), ?_⟩
     refine qV 11 rfl rfl g37 (fun _ => y_bin rfl rfl (bin_eql _ _ _)) ?_
     refine qU 12 rfl rfl (fun _ => y_pickt (vbool rfl g37)) ?_
     refine qt (by kernel_rfl) ?_
     exact ⟨(r42 == (0 : Int)), ⟨rfl, e2, e3, e9, rfl, rfl, e21, e22, e23, bx⟩, h⟩
    ·refine qW 3 rfl rfl g37 ?_
     refine qW 4 rfl rfl g37 ?_
     refine qW 5 rfl rfl g37 ?_
     refine qW 6 rfl rfl g37 ?_
     refine qW 7 rfl rfl g37 ?_
     refine qW 8 rfl rfl g37 ?_
     refine qW 9 rfl rfl g37 ?_
     refine qW 10 rfl rfl g37 ?_
     refine qW 11 rfl rfl g37 ?_
     refine qU 12 rfl rfl (fun _ => y_pickf (vbool rfl g37)) ?_
     refine qt (by kernel_rfl) ?_
     exact ⟨false, ⟨rfl, e2, e3, e9, rfl, rfl, e21, e22, e23, bx⟩, h⟩
 ·refine wpE_exit ?_
  refine qs ?_
  refine qm ?_
  refine qa ?_
  refine qn ?_
  refine wpE_ret ?_
  exact body_r u7.1 rfl (rs_tmp e9 rs_nil) rfl h

set_option maxHeartbeats 4000000 in
theorem cmp_Or_int.lift {a0 : Sl} {Q : Int → Hp → Prop} {hp : Hp} (h : cmp_Or_int a0 Q hp) : CallsH Try.prog 40 #[Sl.enc a0] hp (Rt (Value.int .i64) Q) := by
 unfold cmp_Or_int at h
 refine calls_of 18 Try.func40 rfl rfl ?_
 refine qs ?_
 refine qa ?_
 refine qn ?_
 refine qs ?_
 refine qa ?_
 refine qn ?_
 refine qe ?_
 refine qs ?_
 refine qm ?_
 refine qy rfl (y_lensl Try.underlying23 (lcons rfl lnil)) ?_
 refine qm ?_
 refine qn ?_
 refine wpE_block ?_
 obtain ⟨I4, m0, h, hI4⟩ := h
 refine wpE_loop (fun m ρ hp => ∃ u1 : Int, (ρ 8 = .int .i64 u1 ∧ ρ 3 = .int .i64 0 ∧ ρ 6 = Sl.enc a0 ∧ ρ 7 = .int .i64 (a0.len : Int) ∧ True) ∧ I4 m u1 hp) (m := m0) ⟨0, ⟨rfl, rfl, rfl, rfl, trivial⟩, h⟩ ?_
 rintro m ρ hp ⟨u1, ⟨e8, e3, e6, e7, _⟩, h⟩
 replace h := hI4 m u1 hp h
 refine qs ?_
 refine qy rfl (y_bin e8 e7 (bin_lss _ _ _)) ?_
 refine qn ?_
 refine qe ?_
 refine qc rfl h (fun h => ?_) fun h => ?_
 ·refine wpE_skip ?_
  refine qb ?_
  refine qs ?_
  obtain ⟨p50, q6, q60, q61, h⟩ := h
  generalize q69 : p50.add (_ * _) = p5 at h
  refine qy rfl (ycast_p (y_ix Try.underlying23 ts3 e6 e8 q6 q60 q61) q69) ?_
  obtain ⟨v7, c8, h⟩ := h
  refine qy rfl (y_ld ts3 rfl c8) ?_
  refine qa ?_
  refine qn ?_
  refine qs ?_
  iterate 2 refine qm ?_
  refine qy rfl (y_bin rfl e3 (bin_neq _ _ _)) ?_
  refine qn ?_
  refine qc rfl h (fun h => ?_) fun h => ?_
  ·refine qs ?_
   refine qm ?_
   refine qa ?_
   refine qn ?_
   refine wpE_ret ?_
   exact body_r v7 rfl (rs_tmp rfl rs_nil) rfl h
  ·refine wpE_skip ?_
   refine qr ?_
   refine qy rfl (y_bin e8 rfl (bin_add _ _ _)) ?_
   refine qm ?_
   refine qn ?_
   obtain ⟨m, hm, h⟩ := h
   exact ⟨m, hm, (IntKind.wrap .i64 (u1 + (1 : Int))), ⟨rfl, e3, e6, e7, trivial⟩, h⟩
 ·refine wpE_exit ?_
  refine qs ?_
  refine qm ?_
  refine qa ?_
  refine qn ?_
  refine wpE_ret ?_
  exact body_r 0 rfl (rs_tmp e3 rs_nil) rfl h

set_option maxHeartbeats 4000000 in
theorem cmp_isNaN_int.lift {a0 : Int} {Q : Bool → Hp → Prop} {hp : Hp} (h : cmp_isNaN_int a0 Q hp) : CallsH Try.prog 66 #[.int .i64 a0] hp (Rt Value.bool Q) := by
 unfold cmp_isNaN_int at h
 refine calls_of 6 Try.func66 rfl rfl ?_
 refine qs ?_
 refine qa ?_
 refine qn ?_
 refine qs ?_
 iterate 2 refine qm ?_
 refine qy rfl (y_bin rfl rfl (bin_neq _ _ _)) ?_
 refine qa ?_
 refine qn ?_
 refine wpE_ret ?_
 exact body_r (a0 != a0) rfl (rs_tmp rfl rs_nil) rfl h

set_option maxHeartbeats 4000000 in
theorem cmp_Compare_int.lift {a0 : Int} {a1 : Int} {Q : Int → Hp → Prop} {hp : Hp} (h : cmp_Compare_int a0 a1 Q hp) : CallsH Try.prog 41 #[.int .i64 a0, .int .i64 a1] hp (Rt (Value.int .i64) Q) := by
 unfold cmp_Compare_int at h
 refine calls_of 20 Try.func41 rfl rfl ?_
 refine qs ?_
 refine qa ?_
 refine qn ?_
 refine qs ?_
 refine qm ?_
 refine wpL_call (vs := [.int .i64 a0]) tc66 (lcons rfl lnil) (cmp_isNaN_int.lift h) rfl ?_
 intro r1 hp h
 refine qa ?_
 refine qn ?_
 refine qs ?_
 refine qm ?_
 refine wpL_call (vs := [.int .i64 a1]) tc66 (lcons rfl lnil) (cmp_isNaN_int.lift h) rfl ?_
 intro r3 hp h
 refine qa ?_
 refine qn ?_
 refine qe ?_
 refine qs ?_
 refine qm ?_
 refine qn ?_
 refine qc rfl h (fun h => ?_) fun h => ?_
 ·refine qe ?_
  refine qs ?_
  refine qm ?_
  refine qn ?_
  refine qc rfl h (fun h => ?_) fun h => ?_
  ·refine qs ?_
   refine qa ?_
   refine qn ?_
   refine wpE_ret ?_
   exact body_r 0 rfl (rs_tmp rfl rs_nil) rfl h
  ·refine wpE_skip ?_
   refine qs ?_
   refine qa ?_
   refine qn ?_
   refine wpE_ret ?_
   exact body_r (-1) rfl (rs_tmp rfl rs_nil) rfl h
 ·refine wpE_skip ?_
  refine qe ?_
  refine qs ?_
  refine qm ?_
  refine qn ?_
  refine qc rfl h (fun h => ?_) fun h => ?_
  ·refine qs ?_
   refine qa ?_
   refine qn ?_
   refine wpE_ret ?_
   exact body_r 1 rfl (rs_tmp rfl rs_nil) rfl h
  ·refine wpE_skip ?_
   refine qe ?_
   refine qs ?_
   iterate 2 refine qm ?_
   refine qy rfl (y_bin rfl rfl (bin_lss _ _ _)) ?_
   refine qn ?_
   refine qc rfl h (fun h => ?_) fun h => ?_
   ·refine qs ?_
    refine qa ?_
    refine qn ?_
    refine wpE_ret ?_
    exact body_r (-1) rfl (rs_tmp rfl rs_nil) rfl h
   ·refine wpE_skip ?_
    refine qe ?_
    refine qs ?_
    iterate 2 refine qm ?_
    refine qy rfl (y_bin rfl rfl (bin_gtr _ _ _)) ?_
    refine qn ?_
    refine qc rfl h (fun h => ?_) fun h => ?_
    ·refine qs ?_
     refine qa ?_
     refine qn ?_
     refine wpE_ret ?_
     exact body_r 1 rfl (rs_tmp rfl rs_nil) rfl h
    ·refine wpE_skip ?_
     refine qs ?_
     refine qa ?_
     refine qn ?_
     refine wpE_ret ?_
     exact body_r 0 rfl (rs_tmp rfl rs_nil) rfl h

set_option maxHeartbeats 4000000 in
theorem join_stamps.lift {a0 : S_api_Stamp} {a1 : S_api_Stamp} {Q : Int → Hp → Prop} {hp : Hp} (h : join_stamps a0 a1 Q hp) : CallsH Try.prog 27 #[S_api_Stamp.enc a0, S_api_Stamp.enc a1] hp (Rt (Value.int .i64) Q) := by
 unfold join_stamps at h
 refine calls_of 17 Try.func27 rfl rfl ?_
 refine qs ?_
 refine wpL_boxX (vs := (S_api_Stamp.cells a0)) rfl rfl Bx.nil h rfl ?_
 intro b1 hp h bx
 refine wpL_boxX (vs := (S_api_Stamp.cells a1)) rfl rfl bx h rfl ?_
 intro b3 hp h bx
 refine qa ?_
 refine qn ?_
 refine qe ?_
 refine wpE_draw mixed rfl ?_
 refine qU 0 rfl rfl (fun _ => y_fa fa27_0 rfl) ?_
 refine qT 1 4 (fun h => Hp.cell? h (b1.add 0) = some ((Value.int .i64) a0.Time)) rfl rfl (Bx.cell bx 1 0 rfl (by kernel_rfl)) (fun _ c => y_ld (v := ((Value.int .i64) a0.Time)) ts3 rfl c) ?_
 refine qU 2 rfl rfl (fun _ => y_fa fa27_0 rfl) ?_
 refine qT 3 4 (fun h => Hp.cell? h (b3.add 0) = some ((Value.int .i64) a1.Time)) rfl rfl (Bx.cell bx 0 0 rfl (by kernel_rfl)) (fun _ c => y_ld (v := ((Value.int .i64) a1.Time)) ts3 rfl c) ?_
 refine qU 5 rfl rfl (fun _ => y_fa fa27_1 rfl) ?_
 refine qT 6 9 (fun h => Hp.cell? h (b1.add 1) = some ((Value.int .i64) a0.Who)) rfl rfl (Bx.cell bx 1 1 rfl (by kernel_rfl)) (fun _ c => y_ld (v := ((Value.int .i64) a0.Who)) ts3 rfl c) ?_
 refine qU 7 rfl rfl (fun _ => y_fa fa27_1 rfl) ?_
 refine qT 8 9 (fun h => Hp.cell? h (b3.add 1) = some ((Value.int .i64) a1.Who)) rfl rfl (Bx.cell bx 0 1 rfl (by kernel_rfl)) (fun _ c => y_ld (v := ((Value.int .i64) a1.Who)) ts3 rfl c) ?_
 refine wpA_loud (rs := [4]) (by kernel_rfl) rfl ?_
 refine mcons (step_of rfl ?_) mnil
 refine wpL_call (vs := [.int .i64 a0.Time, .int .i64 a1.Time]) tc41 (lcons rfl (lcons rfl lnil)) (cmp_Compare_int.lift h) rfl ?_
 intro r5 hp h
 obtain ⟨kx, h⟩ := h
 replace bx := Bx.keep bx kx rfl
 refine qn ?_
 refine ⟨hs_live (Bx.cell bx 0 1 rfl (by kernel_rfl)) (hs_live (Bx.cell bx 1 1 rfl (by kernel_rfl)) (hs_dead rfl (hs_dead rfl hs_nil))), ?_⟩
 refine wpA_loud (rs := [9]) (by kernel_rfl) rfl ?_
 refine mcons (step_of rfl ?_) mnil
 refine wpL_call (vs := [.int .i64 a0.Who, .int .i64 a1.Who]) tc41 (lcons rfl (lcons rfl lnil)) (cmp_Compare_int.lift h) rfl ?_
 intro r7 hp h
 refine qn ?_
 refine ⟨hs_dead rfl (hs_dead rfl (hs_dead rfl (hs_dead rfl hs_nil))), ?_⟩
 refine wpA_loud (rs := [10]) (by kernel_rfl) rfl ?_
 refine mcons (step_of rfl ?_) mnil
 refine wpL_bsl Try.underlying23 ts3 tz3 rfl rfl rfl (pcons rfl (pcons rfl rfl)) rfl h rfl ?_
 intro b9 hp h
 refine qn ?_
 refine ⟨hs_dead rfl (hs_dead rfl (hs_dead rfl (hs_dead rfl hs_nil))), ?_⟩
 refine wpA_loud (rs := [11]) (by kernel_rfl) rfl ?_
 refine mcons (step_of rfl ?_) mnil
 refine wpL_call (vs := [Sl.enc (Sl.mk (some b9) 2 2)]) tc40 (lcons rfl lnil) (cmp_Or_int.lift h) rfl ?_
 intro r11 hp h
 refine qn ?_
 refine ⟨hs_dead rfl (hs_dead rfl (hs_dead rfl (hs_dead rfl hs_nil))), ?_⟩
 refine qU 12 rfl rfl (fun _ => y_as) ?_
 refine qt (by kernel_rfl) ?_
 refine wpE_ret ?_
 exact body_r r11 rfl (rs_tmp rfl rs_nil) rfl h

set_option maxHeartbeats 4000000 in
theorem join_States_1.lift {a0 : S_api_Inode} {a1 : S_api_Inode} {Q : Int → Hp → Prop} {hp : Hp} (h : join_States_1 a0 a1 Q hp) : CallsH Try.prog 26 #[S_api_Inode.enc a0, S_api_Inode.enc a1] hp (Rt (Value.int .i64) Q) := by
 unfold join_States_1 at h
 refine calls_of 10 Try.func26 rfl rfl ?_
 refine qs ?_
 refine wpL_boxX (vs := (S_api_Inode.cells a0)) rfl rfl Bx.nil h rfl ?_
 intro b1 hp h bx
 refine wpL_boxX (vs := (S_api_Inode.cells a1)) rfl rfl bx h rfl ?_
 intro b3 hp h bx
 refine qa ?_
 refine qn ?_
 refine qs ?_
 refine qy rfl (y_fa fa55_0 rfl) ?_
 refine qy rfl (y_lda (cs := (S_api_Stamp.cells a0.Id)) ts27 rfl rfl (Bx.row bx 1 0 rfl (by kernel_rfl))) ?_
 refine qy rfl (y_fa fa55_0 rfl) ?_
 refine qy rfl (y_lda (cs := (S_api_Stamp.cells a1.Id)) ts27 rfl rfl (Bx.row bx 0 0 rfl (by kernel_rfl))) ?_
 refine wpL_call (vs := [S_api_Stamp.enc a0.Id, S_api_Stamp.enc a1.Id]) tc27 (lcons rfl (lcons rfl lnil)) (join_stamps.lift h) rfl ?_
 intro r5 hp h
 refine qa ?_
 refine qn ?_
 refine wpE_ret ?_
 exact body_r r5 rfl (rs_tmp rfl rs_nil) rfl h

set_option maxHeartbeats 4000000 in
theorem slices_Grow_api_Piece_api_Piece.lift {a0 : Sl} {a1 : Int} {Q : Sl → Hp → Prop} {hp : Hp} (h : slices_Grow_api_Piece_api_Piece a0 a1 Q hp) : CallsH Try.prog 68 #[Sl.enc a0, .int .i64 a1] hp (Rt Sl.enc Q) := by
 unfold slices_Grow_api_Piece_api_Piece at h
 refine calls_of 27 Try.func68 rfl rfl ?_
 refine qs ?_
 refine qa ?_
 refine qn ?_
 obtain ⟨K2, jK2, h⟩ := h
 refine wpE_seqJH K2 (fun (x1 : Unit) (ρ : Env) (hp : Hp) => ρ 0 = Sl.enc a0 ∧ ρ 1 = .int .i64 a1 ∧ True) (fun ρ x1 hp f h => ?_) ?_
 ·obtain ⟨e0, e1, _⟩ := f
  replace h := jK2 x1 hp h
  obtain ⟨K5, jK5, h⟩ := h
  refine wpE_seqJH K5 (fun (x4 : Sl) (ρ : Env) (hp : Hp) => ρ 0 = Sl.enc x4 ∧ True) (fun ρ x4 hp f h => ?_) ?_
  ·obtain ⟨e0, _⟩ := f
   replace h := jK5 x4 hp h
   refine qs ?_
   refine qm ?_
   refine qa ?_
   refine qn ?_
   refine wpE_ret ?_
   exact body_r x4 rfl (rs_tmp e0 rs_nil) rfl h
  ·refine qs ?_
   iterate 2 refine qm ?_
   refine qy rfl (y_capsl Try.underlying52 (lcons e0 lnil)) ?_
   refine qm ?_
   refine qy rfl (y_lensl Try.underlying52 (lcons e0 lnil)) ?_
   refine qy rfl (y_bin rfl rfl (bin_sub _ _ _)) ?_
   refine qy rfl (y_bin e1 rfl (bin_sub _ _ _)) ?_
   refine qa ?_
   refine qn ?_
   refine qs ?_
   refine qm ?_
   refine qy rfl (y_bin rfl rfl (bin_gtr _ _ _)) ?_
   refine qn ?_
   refine qc rfl h (fun h => ?_) fun h => ?_
   ·refine qr ?_
    iterate 2 refine qm ?_
    refine qy rfl (y_capsl Try.underlying52 (lcons e0 lnil)) ?_
    obtain ⟨q70, q71, q72, h⟩ := h
    generalize q79 : Sl.sub _ _ _ _ = v8 at h
    refine qy rfl (ycast_l (y_slsl Try.underlying52 ts60 e0 rfl ⟨_, rfl⟩ q70 q71 q72) q79) ?_
    refine qm ?_
    refine wpL_appz Try.underlying52 Try.underlying3 ts60 ti60 (by decide) tz60 rfl rfl rfl (lcons rfl (lcons rfl lnil)) h rfl ?_
    intro v9 hp h
    refine qm ?_
    refine qy rfl (y_lensl Try.underlying52 (lcons e0 lnil)) ?_
    obtain ⟨q110, q111, q112, h⟩ := h
    generalize q119 : Sl.sub _ _ _ _ = v12 at h
    refine qy rfl (ycast_l (y_slsl Try.underlying52 ts60 rfl rfl ⟨_, rfl⟩ q110 q111 q112) q119) ?_
    refine qa ?_
    refine qn ?_
    exact ⟨v12, ⟨rfl, trivial⟩, h⟩
   ·refine wpE_skip ?_
    exact ⟨a0, ⟨e0, trivial⟩, h⟩
 ·refine qs ?_
  refine qm ?_
  refine qy rfl (y_bin rfl rfl (bin_lss _ _ _)) ?_
  refine qn ?_
  refine qc rfl h (fun h => ?_) fun h => ?_
  ·refine qr ?_
   exact h.elim
  ·refine wpE_skip ?_
   exact ⟨(), ⟨rfl, rfl, trivial⟩, h⟩

set_option maxHeartbeats 4000000 in
theorem slices_Concat_api_Piece_api_Piece.lift {a0 : Sl} {Q : Sl → Hp → Prop} {hp : Hp} (h : slices_Concat_api_Piece_api_Piece a0 Q hp) : CallsH Try.prog 46 #[Sl.enc a0] hp (Rt Sl.enc Q) := by
 unfold slices_Concat_api_Piece_api_Piece at h
 refine calls_of 36 Try.func46 rfl rfl ?_
 refine qs ?_
 refine qa ?_
 refine qn ?_
 refine qs ?_
 refine qa ?_
 refine qn ?_
 refine qe ?_
 refine qs ?_
 refine qm ?_
 refine qy rfl (y_lensl Try.underlying116 (lcons rfl lnil)) ?_
 refine qm ?_
 refine qn ?_
 refine wpE_block ?_
 obtain ⟨I4, m0, h, hI4⟩ := h
 refine wpE_loop (fun m ρ hp => ∃ u1 : Int × Int, (ρ 3 = .int .i64 u1.1 ∧ ρ 11 = .int .i64 u1.2 ∧ ρ 0 = Sl.enc a0 ∧ ρ 9 = Sl.enc a0 ∧ ρ 10 = .int .i64 (a0.len : Int) ∧ True) ∧ I4 m u1 hp) (m := m0) ⟨(0, 0), ⟨rfl, rfl, rfl, rfl, rfl, trivial⟩, h⟩ ?_
 rintro m ρ hp ⟨u1, ⟨e3, e11, e0, e9, e10, _⟩, h⟩
 replace h := hI4 m u1 hp h
 refine qs ?_
 refine qy rfl (y_bin e11 e10 (bin_lss _ _ _)) ?_
 refine qn ?_
 refine qe ?_
 refine qc rfl h (fun h => ?_) fun h => ?_
 ·refine wpE_skip ?_
  obtain ⟨K6, jK6, h⟩ := h
  refine wpE_seqJH K6 (fun (x5 : Int) (ρ : Env) (hp : Hp) => ρ 3 = .int .i64 x5 ∧ ρ 0 = Sl.enc a0 ∧ ρ 9 = Sl.enc a0 ∧ ρ 10 = .int .i64 (a0.len : Int) ∧ ρ 11 = .int .i64 u1.2 ∧ True) (fun ρ x5 hp f h => ?_) ?_
  ·obtain ⟨e3, e0, e9, e10, e11, _⟩ := f
   replace h := jK6 x5 hp h
   refine qr ?_
   refine qy rfl (y_bin e11 rfl (bin_add _ _ _)) ?_
   refine qm ?_
   refine qn ?_
   obtain ⟨m, hm, h⟩ := h
   exact ⟨m, hm, (x5, IntKind.wrap .i64 (u1.2 + (1 : Int))), ⟨e3, rfl, e0, e9, e10, trivial⟩, h⟩
  ·refine wpE_block ?_
   refine qs ?_
   obtain ⟨p80, q9, q90, q91, h⟩ := h
   generalize q99 : p80.add (_ * _) = p8 at h
   refine qy rfl (ycast_p (y_ix Try.underlying116 ts52 e9 e11 q9 q90 q91) q99) ?_
   obtain ⟨v10, c11, h⟩ := h
   refine qy rfl (y_ld ts52 rfl c11) ?_
   refine qa ?_
   refine qn ?_
   refine qs ?_
   iterate 2 refine qm ?_
   refine qy rfl (y_lensl Try.underlying52 (lcons rfl lnil)) ?_
   refine qy rfl (y_bin e3 rfl (bin_add _ _ _)) ?_
   refine qa ?_
   refine qn ?_
   refine qs ?_
   refine qm ?_
   refine qy rfl (y_bin rfl rfl (bin_lss _ _ _)) ?_
   refine qn ?_
   refine qc rfl h (fun h => ?_) fun h => ?_
   ·refine qr ?_
    exact h.elim
   ·refine wpE_skip ?_
    exact ⟨(IntKind.wrap .i64 (u1.1 + (v10.len : Int))), ⟨rfl, e0, e9, e10, e11, trivial⟩, h⟩
 ·refine wpE_exit ?_
  refine qs ?_
  refine qm ?_
  refine wpL_call (vs := [Sl.enc Sl.nil, .int .i64 u1.1]) tc68 (lcons rfl (lcons e3 lnil)) (slices_Grow_api_Piece_api_Piece.lift h) rfl ?_
  intro r12 hp h
  refine qa ?_
  refine qn ?_
  refine qe ?_
  refine qs ?_
  refine qm ?_
  refine qy rfl (y_lensl Try.underlying116 (lcons e0 lnil)) ?_
  refine qm ?_
  refine qn ?_
  refine wpE_block ?_
  obtain ⟨I17, m0, h, hI17⟩ := h
  refine wpE_loop (fun m ρ hp => ∃ u14 : Sl × Int, (ρ 6 = Sl.enc u14.1 ∧ ρ 27 = .int .i64 u14.2 ∧ ρ 25 = Sl.enc a0 ∧ ρ 26 = .int .i64 (a0.len : Int) ∧ True) ∧ I17 m u14 hp) (m := m0) ⟨(r12, 0), ⟨rfl, rfl, e0, rfl, trivial⟩, h⟩ ?_
  rintro m ρ hp ⟨u14, ⟨e6, e27, e25, e26, _⟩, h⟩
  replace h := hI17 m u14 hp h
  refine qs ?_
  refine qy rfl (y_bin e27 e26 (bin_lss _ _ _)) ?_
  refine qn ?_
  refine qe ?_
  refine qc rfl h (fun h => ?_) fun h => ?_
  ·refine wpE_skip ?_
   refine qb ?_
   refine qs ?_
   obtain ⟨p180, q19, q190, q191, h⟩ := h
   generalize q199 : p180.add (_ * _) = p18 at h
   refine qy rfl (ycast_p (y_ix Try.underlying116 ts52 e25 e27 q19 q190 q191) q199) ?_
   obtain ⟨v20, c21, h⟩ := h
   refine qy rfl (y_ld ts52 rfl c21) ?_
   refine qa ?_
   refine qn ?_
   refine qr ?_
   iterate 2 refine qm ?_
   refine wpL_appsI Try.underlying52 Try.underlying52 ts60 ti60 (by decide) tz60 rfl (lcons e6 (lcons rfl lnil)) h rfl ?_
   intro v22 hp h
   refine qa ?_
   refine qn ?_
   refine qr ?_
   refine qy rfl (y_bin e27 rfl (bin_add _ _ _)) ?_
   refine qm ?_
   refine qn ?_
   obtain ⟨m, hm, h⟩ := h
   exact ⟨m, hm, (v22, IntKind.wrap .i64 (u14.2 + (1 : Int))), ⟨rfl, rfl, e25, e26, trivial⟩, h⟩
  ·refine wpE_exit ?_
   refine qs ?_
   refine qm ?_
   refine qa ?_
   refine qn ?_
   refine wpE_ret ?_
   exact body_r u14.1 rfl (rs_tmp e6 rs_nil) rfl h

set_option maxHeartbeats 4000000 in
theorem slices_insertionSortCmpFunc_api_Piece.lift {a0 : Sl} {a1 : Int} {a2 : Int} {a3 : Value} {a3_f : S_api_Piece → S_api_Piece → (Int → Hp → Prop) → Hp → Prop} (a3_i : ∀ x0 x1 Q h, a3_f x0 x1 Q h → CallsV Try.prog a3 [S_api_Piece.enc x0, S_api_Piece.enc x1] h (Rt (Value.int .i64) Q)) {Q : Unit → Hp → Prop} {hp : Hp} (h : slices_insertionSortCmpFunc_api_Piece a0 a1 a2 a3_f Q hp) : CallsH Try.prog 85 #[Sl.enc a0, .int .i64 a1, .int .i64 a2, a3] hp (Rt (fun _ : Unit => .tuple #[]) Q) := by
 unfold slices_insertionSortCmpFunc_api_Piece at h
 refine calls_of 53 Try.func85 rfl rfl ?_
 refine qs ?_
 refine qm ?_
 refine qy rfl (y_bin rfl rfl (bin_add _ _ _)) ?_
 refine qa ?_
 refine qn ?_
 refine wpE_block ?_
 obtain ⟨I4, m0, h, hI4⟩ := h
 refine wpE_loop (fun m ρ hp => ∃ u1 : Int, (ρ 8 = .int .i64 u1 ∧ ρ 0 = Sl.enc a0 ∧ ρ 1 = .int .i64 a1 ∧ ρ 2 = .int .i64 a2 ∧ ρ 3 = a3 ∧ True) ∧ I4 m u1 hp) (m := m0) ⟨(IntKind.wrap .i64 (a1 + (1 : Int))), ⟨rfl, rfl, rfl, rfl, rfl, trivial⟩, h⟩ ?_
 rintro m ρ hp ⟨u1, ⟨e8, e0, e1, e2, e3, _⟩, h⟩
 replace h := hI4 m u1 hp h
 refine qe ?_
 refine qs ?_
 iterate 2 refine qm ?_
 refine qy rfl (y_bin e8 e2 (bin_lss _ _ _)) ?_
 refine qn ?_
 refine qc rfl h (fun h => ?_) fun h => ?_
 ·refine wpE_skip ?_
  refine qb ?_
  refine qs ?_
  refine qm ?_
  refine qa ?_
  refine qn ?_
  refine wpE_block ?_
  obtain ⟨I8, m0, h, hI8⟩ := h
  refine wpE_loop (fun m ρ hp => ∃ u5 : Int, (ρ 9 = .int .i64 u5 ∧ ρ 0 = Sl.enc a0 ∧ ρ 1 = .int .i64 a1 ∧ ρ 2 = .int .i64 a2 ∧ ρ 3 = a3 ∧ ρ 8 = .int .i64 u1 ∧ True) ∧ I8 m u5 hp) (m := m0) ⟨u1, ⟨e8, e0, e1, e2, e3, e8, trivial⟩, h⟩ ?_
  rintro m ρ hp ⟨u5, ⟨e9, e0, e1, e2, e3, e8, _⟩, h⟩
  replace h := hI8 m u5 hp h
  refine qe ?_
  obtain ⟨K10, jK10, h⟩ := h
  refine wpE_seqJH K10 (fun (x9 : Bool) (ρ : Env) (hp : Hp) => ρ 34 = .bool x9 ∧ ρ 0 = Sl.enc a0 ∧ ρ 1 = .int .i64 a1 ∧ ρ 2 = .int .i64 a2 ∧ ρ 3 = a3 ∧ ρ 8 = .int .i64 u1 ∧ ρ 9 = .int .i64 u5 ∧ True) (fun ρ x9 hp f h => ?_) ?_
  ·obtain ⟨e34, e0, e1, e2, e3, e8, e9, _⟩ := f
   replace h := jK10 x9 hp h
   refine qc e34 h (fun h => ?_) fun h => ?_
   ·refine wpE_skip ?_
    refine qb ?_
    refine wpE_draw mixed rfl ?_
    refine qU 0 rfl rfl (fun _ => y_mv) ?_
    refine qU 1 rfl rfl (fun _ => y_mv) ?_
    refine qU 2 rfl rfl (fun _ => y_mv) ?_
    refine qU 3 rfl rfl (fun _ => y_mv) ?_
    refine qU 4 rfl rfl (fun _ => y_bin e9 rfl (bin_sub _ _ _)) ?_
    refine qU 5 rfl rfl (fun _ => y_mv) ?_
    refine qU 6 rfl rfl (fun _ => y_mv) ?_
    refine qU 7 rfl rfl (fun _ => y_bin e9 rfl (bin_sub _ _ _)) ?_
    obtain ⟨p120, q13, q130, q131, h⟩ := h
    generalize q139 : p120.add (_ * _) = p12 at h
    refine qU 8 rfl rfl (fun _ => ycast_p (y_ix Try.underlying52 ts60 e0 rfl q13 q130 q131) q139) ?_
    obtain ⟨v14, c15, h⟩ := h
    refine qT 9 15 (fun h => Row h p12 (S_api_Piece.cells v14)) rfl rfl c15 (fun _ c => y_lda ts60 rfl rfl c) ?_
    refine qU 10 rfl rfl (fun _ => y_mv) ?_
    refine qU 11 rfl rfl (fun _ => y_mv) ?_
    obtain ⟨p160, q17, q170, q171, h⟩ := h
    generalize q179 : p160.add (_ * _) = p16 at h
    refine qU 12 rfl rfl (fun _ => ycast_p (y_ix Try.underlying52 ts60 e0 e9 q17 q170 q171) q179) ?_
    obtain ⟨v18, c19, h⟩ := h
    refine qT 13 15 (fun h => Row h p16 (S_api_Piece.cells v18)) rfl rfl c19 (fun _ c => y_lda ts60 rfl rfl c) ?_
    obtain ⟨p200, q21, q210, q211, h⟩ := h
    generalize q219 : p200.add (_ * _) = p20 at h
    refine qU 14 rfl rfl (fun _ => ycast_p (y_ix Try.underlying52 ts60 e0 e9 q21 q210 q211) q219) ?_
    refine wpA_loud (rs := [15]) (by kernel_rfl) rfl ?_
    refine mcons (step_of rfl ?_) mnil
    refine wpL_sta ts60 rfl rfl rfl rfl h ?_
    generalize setCells _ _ _ _ = hp
    intro h
    refine qn ?_
    refine ⟨hs_dead rfl (hs_dead rfl hs_nil), ?_⟩
    obtain ⟨p230, q24, q240, q241, h⟩ := h
    generalize q249 : p230.add (_ * _) = p23 at h
    refine qU 16 rfl rfl (fun _ => ycast_p (y_ix Try.underlying52 ts60 e0 rfl q24 q240 q241) q249) ?_
    refine wpA_loud (rs := [17]) (by kernel_rfl) rfl ?_
    refine mcons (step_of rfl ?_) mnil
    refine wpL_sta ts60 rfl rfl rfl rfl h ?_
    generalize setCells _ _ _ _ = hp
    intro h
    refine qn ?_
    refine ⟨hs_dead rfl (hs_dead rfl hs_nil), ?_⟩
    refine qt (by kernel_rfl) ?_
    refine qr ?_
    refine qm ?_
    refine qy rfl (y_bin e9 rfl (bin_sub _ _ _)) ?_
    refine qa ?_
    refine qn ?_
    obtain ⟨m, hm, h⟩ := h
    exact ⟨m, hm, (IntKind.wrap .i64 (u5 - (1 : Int))), ⟨rfl, e0, e1, e2, e3, e8, trivial⟩, h⟩
   ·refine wpE_exit ?_
    refine qr ?_
    refine qm ?_
    refine qy rfl (y_bin e8 rfl (bin_add _ _ _)) ?_
    refine qa ?_
    refine qn ?_
    obtain ⟨m, hm, h⟩ := h
    exact ⟨m, hm, (IntKind.wrap .i64 (u1 + (1 : Int))), ⟨rfl, e0, e1, e2, e3, trivial⟩, h⟩
  ·refine wpE_draw mixed rfl ?_
   refine qU 0 rfl rfl (fun _ => y_mv) ?_
   refine qU 1 rfl rfl (fun _ => y_mv) ?_
   refine qU 2 rfl rfl (fun _ => y_bin e9 e1 (bin_gtr _ _ _)) ?_
   refine qU 3 rfl rfl (fun _ => y_mv) ?_
   refine wpA_split h (fun g26 h => ?_) (fun g26 h => ?_)
   ·refine qV 4 rfl rfl g26 (fun _ => y_mv) ?_
    refine qV 5 rfl rfl g26 (fun _ => y_mv) ?_
    refine qV 6 rfl rfl g26 (fun _ => y_mv) ?_
    obtain ⟨p270, q28, q280, q281, h⟩ := h
    generalize q289 : p270.add (_ * _) = p27 at h
    refine qV 7 rfl rfl g26 (fun _ => ycast_p (y_ix Try.underlying52 ts60 e0 e9 q28 q280 q281) q289) ?_
    obtain ⟨v29, c30, h⟩ := h
    refine wpA_take (i := 8) (kk := 14) (fun h => Row h p27 (S_api_Piece.cells v29)) rfl rfl rfl (by kernel_rfl) (by kernel_rfl) (wt_bool rfl rfl rfl (vbool rfl g26) rfl) (fun _ _ _ _ h => h) c30 (fun _ c => y_lda ts60 rfl rfl c) ?_
    refine qV 9 rfl rfl g26 (fun _ => y_mv) ?_
    refine qV 10 rfl rfl g26 (fun _ => y_mv) ?_
    refine qV 11 rfl rfl g26 (fun _ => y_bin e9 rfl (bin_sub _ _ _)) ?_
    obtain ⟨p310, q32, q320, q321, h⟩ := h
    generalize q329 : p310.add (_ * _) = p31 at h
    refine qV 12 rfl rfl g26 (fun _ => ycast_p (y_ix Try.underlying52 ts60 e0 rfl q32 q320 q321) q329) ?_
    obtain ⟨v33, c34, h⟩ := h
    refine wpA_take (i := 13) (kk := 14) (fun h => Row h p31 (S_api_Piece.cells v33)) rfl rfl rfl (by kernel_rfl) (by kernel_rfl) (wt_bool rfl rfl rfl (vbool rfl g26) rfl) (fun _ _ _ _ h => h) c34 (fun _ c => y_lda ts60 rfl rfl c) ?_
    refine wpA_loud (rs := [14]) (by kernel_rfl) rfl ?_
    refine mcons (step_of rfl ?_) mnil
    refine qg rfl g26 ?_
    refine wpL_callv e3 (lcons rfl (lcons rfl lnil)) (a3_i _ _ _ _ h) rfl ?_
    intro r35 hp h
    refine qn ?_
    refine ⟨hs_dead rfl (hs_dead rfl hs_nil), ?_⟩
    refine qV 15 rfl rfl g26 (fun _ => y_bin rfl rfl (bin_lss _ _ _)) ?_
    refine qU 16 rfl rfl (fun _ => y_pickt (vbool rfl g26)) ?_
    refine qt (by kernel_rfl) ?_
    exact ⟨(decide (r35 < (0 : Int))), ⟨rfl, e0, e1, e2, e3, e8, e9, trivial⟩, h⟩
   ·refine qW 4 rfl rfl g26 ?_
    refine qW 5 rfl rfl g26 ?_
    refine qW 6 rfl rfl g26 ?_
    refine qW 7 rfl rfl g26 ?_
    refine qW 8 rfl rfl g26 ?_
    refine qW 9 rfl rfl g26 ?_
    refine qW 10 rfl rfl g26 ?_
    refine qW 11 rfl rfl g26 ?_
    refine qW 12 rfl rfl g26 ?_
    refine qW 13 rfl rfl g26 ?_
    refine qW 14 rfl rfl g26 ?_
    refine qW 15 rfl rfl g26 ?_
    refine qU 16 rfl rfl (fun _ => y_pickf (vbool rfl g26)) ?_
    refine qt (by kernel_rfl) ?_
    exact ⟨false, ⟨rfl, e0, e1, e2, e3, e8, e9, trivial⟩, h⟩
 ·refine wpE_exit ?_
  exact body_n () rfl rs_nil rfl h

set_option maxHeartbeats 4000000 in
theorem slices_swapRangeCmpFunc_api_Piece.lift {a0 : Sl} {a1 : Int} {a2 : Int} {a3 : Int} {a4 : Value} {a4_f : S_api_Piece → S_api_Piece → (Int → Hp → Prop) → Hp → Prop} (a4_i : ∀ x0 x1 Q h, a4_f x0 x1 Q h → CallsV Try.prog a4 [S_api_Piece.enc x0, S_api_Piece.enc x1] h (Rt (Value.int .i64) Q)) {Q : Unit → Hp → Prop} {hp : Hp} (h : slices_swapRangeCmpFunc_api_Piece a0 a1 a2 a3 a4_f Q hp) : CallsH Try.prog 93 #[Sl.enc a0, .int .i64 a1, .int .i64 a2, .int .i64 a3, a4] hp (Rt (fun _ : Unit => .tuple #[]) Q) := by
 unfold slices_swapRangeCmpFunc_api_Piece at h
 refine calls_of 38 Try.func93 rfl rfl ?_
 refine qs ?_
 refine qa ?_
 refine qn ?_
 refine wpE_block ?_
 obtain ⟨I4, m0, h, hI4⟩ := h
 refine wpE_loop (fun m ρ hp => ∃ u1 : Int, (ρ 10 = .int .i64 u1 ∧ ρ 0 = Sl.enc a0 ∧ ρ 1 = .int .i64 a1 ∧ ρ 2 = .int .i64 a2 ∧ ρ 3 = .int .i64 a3 ∧ True) ∧ I4 m u1 hp) (m := m0) ⟨0, ⟨rfl, rfl, rfl, rfl, rfl, trivial⟩, h⟩ ?_
 rintro m ρ hp ⟨u1, ⟨e10, e0, e1, e2, e3, _⟩, h⟩
 replace h := hI4 m u1 hp h
 refine qe ?_
 refine qs ?_
 iterate 2 refine qm ?_
 refine qy rfl (y_bin e10 e3 (bin_lss _ _ _)) ?_
 refine qn ?_
 refine qc rfl h (fun h => ?_) fun h => ?_
 ·refine wpE_skip ?_
  refine qb ?_
  refine wpE_draw mixed rfl ?_
  refine qU 0 rfl rfl (fun _ => y_mv) ?_
  refine qU 1 rfl rfl (fun _ => y_mv) ?_
  refine qU 2 rfl rfl (fun _ => y_mv) ?_
  refine qU 3 rfl rfl (fun _ => y_bin e1 e10 (bin_add _ _ _)) ?_
  refine qU 4 rfl rfl (fun _ => y_mv) ?_
  refine qU 5 rfl rfl (fun _ => y_mv) ?_
  refine qU 6 rfl rfl (fun _ => y_mv) ?_
  refine qU 7 rfl rfl (fun _ => y_bin e2 e10 (bin_add _ _ _)) ?_
  refine qU 8 rfl rfl (fun _ => y_mv) ?_
  refine qU 9 rfl rfl (fun _ => y_mv) ?_
  refine qU 10 rfl rfl (fun _ => y_mv) ?_
  refine qU 11 rfl rfl (fun _ => y_bin e2 e10 (bin_add _ _ _)) ?_
  obtain ⟨p50, q6, q60, q61, h⟩ := h
  generalize q69 : p50.add (_ * _) = p5 at h
  refine qU 12 rfl rfl (fun _ => ycast_p (y_ix Try.underlying52 ts60 e0 rfl q6 q60 q61) q69) ?_
  obtain ⟨v7, c8, h⟩ := h
  refine qT 13 21 (fun h => Row h p5 (S_api_Piece.cells v7)) rfl rfl c8 (fun _ c => y_lda ts60 rfl rfl c) ?_
  refine qU 14 rfl rfl (fun _ => y_mv) ?_
  refine qU 15 rfl rfl (fun _ => y_mv) ?_
  refine qU 16 rfl rfl (fun _ => y_mv) ?_
  refine qU 17 rfl rfl (fun _ => y_bin e1 e10 (bin_add _ _ _)) ?_
  obtain ⟨p90, q10, q100, q101, h⟩ := h
  generalize q109 : p90.add (_ * _) = p9 at h
  refine qU 18 rfl rfl (fun _ => ycast_p (y_ix Try.underlying52 ts60 e0 rfl q10 q100 q101) q109) ?_
  obtain ⟨v11, c12, h⟩ := h
  refine qT 19 21 (fun h => Row h p9 (S_api_Piece.cells v11)) rfl rfl c12 (fun _ c => y_lda ts60 rfl rfl c) ?_
  obtain ⟨p130, q14, q140, q141, h⟩ := h
  generalize q149 : p130.add (_ * _) = p13 at h
  refine qU 20 rfl rfl (fun _ => ycast_p (y_ix Try.underlying52 ts60 e0 rfl q14 q140 q141) q149) ?_
  refine wpA_loud (rs := [21]) (by kernel_rfl) rfl ?_
  refine mcons (step_of rfl ?_) mnil
  refine wpL_sta ts60 rfl rfl rfl rfl h ?_
  generalize setCells _ _ _ _ = hp
  intro h
  refine qn ?_
  refine ⟨hs_dead rfl (hs_dead rfl hs_nil), ?_⟩
  obtain ⟨p160, q17, q170, q171, h⟩ := h
  generalize q179 : p160.add (_ * _) = p16 at h
  refine qU 22 rfl rfl (fun _ => ycast_p (y_ix Try.underlying52 ts60 e0 rfl q17 q170 q171) q179) ?_
  refine wpA_loud (rs := [23]) (by kernel_rfl) rfl ?_
  refine mcons (step_of rfl ?_) mnil
  refine wpL_sta ts60 rfl rfl rfl rfl h ?_
  generalize setCells _ _ _ _ = hp
  intro h
  refine qn ?_
  refine ⟨hs_dead rfl (hs_dead rfl hs_nil), ?_⟩
  refine qt (by kernel_rfl) ?_
  refine qr ?_
  refine qm ?_
  refine qy rfl (y_bin e10 rfl (bin_add _ _ _)) ?_
  refine qa ?_
  refine qn ?_
  obtain ⟨m, hm, h⟩ := h
  exact ⟨m, hm, (IntKind.wrap .i64 (u1 + (1 : Int))), ⟨rfl, e0, e1, e2, e3, trivial⟩, h⟩
 ·refine wpE_exit ?_
  exact body_n () rfl rs_nil rfl h

set_option maxHeartbeats 4000000 in
theorem slices_rotateCmpFunc_api_Piece.lift {a0 : Sl} {a1 : Int} {a2 : Int} {a3 : Int} {a4 : Value} {a4_f : S_api_Piece → S_api_Piece → (Int → Hp → Prop) → Hp → Prop} (a4_i : ∀ x0 x1 Q h, a4_f x0 x1 Q h → CallsV Try.prog a4 [S_api_Piece.enc x0, S_api_Piece.enc x1] h (Rt (Value.int .i64) Q)) {Q : Unit → Hp → Prop} {hp : Hp} (h : slices_rotateCmpFunc_api_Piece a0 a1 a2 a3 a4_f Q hp) : CallsH Try.prog 91 #[Sl.enc a0, .int .i64 a1, .int .i64 a2, .int .i64 a3, a4] hp (Rt (fun _ : Unit => .tuple #[]) Q) := by
 unfold slices_rotateCmpFunc_api_Piece at h
 refine calls_of 58 Try.func91 rfl rfl ?_
 refine qs ?_
 iterate 2 refine qm ?_
 refine qy rfl (y_bin rfl rfl (bin_sub _ _ _)) ?_
 refine qa ?_
 refine qn ?_
 refine qs ?_
 iterate 2 refine qm ?_
 refine qy rfl (y_bin rfl rfl (bin_sub _ _ _)) ?_
 refine qa ?_
 refine qn ?_
 refine qb ?_
 obtain ⟨I4, m0, h, hI4⟩ := h
 refine wpE_loop (fun m ρ hp => ∃ u1 : Int × Int, (ρ 10 = .int .i64 u1.1 ∧ ρ 11 = .int .i64 u1.2 ∧ ρ 0 = Sl.enc a0 ∧ ρ 2 = .int .i64 a2 ∧ ρ 4 = a4 ∧ True) ∧ I4 m u1 hp) (m := m0) ⟨(IntKind.wrap .i64 (a2 - a1), IntKind.wrap .i64 (a3 - a2)), ⟨rfl, rfl, rfl, rfl, rfl, trivial⟩, h⟩ ?_
 rintro m ρ hp ⟨u1, ⟨e10, e11, e0, e2, e4, _⟩, h⟩
 replace h := hI4 m u1 hp h
 refine qe ?_
 refine qs ?_
 iterate 2 refine qm ?_
 refine qy rfl (y_bin e10 e11 (bin_neq _ _ _)) ?_
 refine qn ?_
 refine qc rfl h (fun h => ?_) fun h => ?_
 ·refine wpE_skip ?_
  refine wpE_block ?_
  refine qs ?_
  iterate 2 refine qm ?_
  refine qy rfl (y_bin e10 e11 (bin_gtr _ _ _)) ?_
  refine qn ?_
  refine qc rfl h (fun h => ?_) fun h => ?_
  ·refine qs ?_
   iterate 3 refine qm ?_
   refine qy rfl (y_bin e2 e10 (bin_sub _ _ _)) ?_
   iterate 3 refine qm ?_
   refine wpL_call (vs := [Sl.enc a0, .int .i64 (IntKind.wrap .i64 (a2 - u1.1)), .int .i64 a2, .int .i64 u1.2, a4]) tc93 (lcons e0 (lcons rfl (lcons e2 (lcons e11 (lcons e4 lnil))))) (slices_swapRangeCmpFunc_api_Piece.lift a4_i h) rfl ?_
   intro r5 hp h
   refine qn ?_
   refine qr ?_
   iterate 2 refine qm ?_
   refine qy rfl (y_bin e10 e11 (bin_sub _ _ _)) ?_
   refine qa ?_
   refine qn ?_
   obtain ⟨m, hm, h⟩ := h
   exact ⟨m, hm, (IntKind.wrap .i64 (u1.1 - u1.2), u1.2), ⟨rfl, e11, e0, e2, e4, trivial⟩, h⟩
  ·refine qs ?_
   iterate 3 refine qm ?_
   refine qy rfl (y_bin e2 e10 (bin_sub _ _ _)) ?_
   iterate 2 refine qm ?_
   refine qy rfl (y_bin e2 e11 (bin_add _ _ _)) ?_
   refine qm ?_
   refine qy rfl (y_bin rfl e10 (bin_sub _ _ _)) ?_
   iterate 2 refine qm ?_
   refine wpL_call (vs := [Sl.enc a0, .int .i64 (IntKind.wrap .i64 (a2 - u1.1)), .int .i64 (IntKind.wrap .i64 ((IntKind.wrap .i64 (a2 + u1.2)) - u1.1)), .int .i64 u1.1, a4]) tc93 (lcons e0 (lcons rfl (lcons rfl (lcons e10 (lcons e4 lnil))))) (slices_swapRangeCmpFunc_api_Piece.lift a4_i h) rfl ?_
   intro r7 hp h
   refine qn ?_
   refine qr ?_
   iterate 2 refine qm ?_
   refine qy rfl (y_bin e11 e10 (bin_sub _ _ _)) ?_
   refine qa ?_
   refine qn ?_
   obtain ⟨m, hm, h⟩ := h
   exact ⟨m, hm, (u1.1, IntKind.wrap .i64 (u1.2 - u1.1)), ⟨e10, rfl, e0, e2, e4, trivial⟩, h⟩
 ·refine wpE_exit ?_
  refine qr ?_
  iterate 3 refine qm ?_
  refine qy rfl (y_bin e2 e10 (bin_sub _ _ _)) ?_
  iterate 3 refine qm ?_
  refine wpL_call (vs := [Sl.enc a0, .int .i64 (IntKind.wrap .i64 (a2 - u1.1)), .int .i64 a2, .int .i64 u1.1, a4]) tc93 (lcons e0 (lcons rfl (lcons e2 (lcons e10 (lcons e4 lnil))))) (slices_swapRangeCmpFunc_api_Piece.lift a4_i h) rfl ?_
  intro r9 hp h
  refine qn ?_
  exact body_n () rfl rs_nil rfl h

set_option maxHeartbeats 4000000 in
theorem slices_symMergeCmpFunc_api_Piece.lift : ∀ (k : Nat) {a0 : Sl} {a1 : Int} {a2 : Int} {a3 : Int} {a4 : Value} {a4_f : S_api_Piece → S_api_Piece → (Int → Hp → Prop) → Hp → Prop} (a4_i : ∀ x0 x1 Q h, a4_f x0 x1 Q h → CallsV Try.prog a4 [S_api_Piece.enc x0, S_api_Piece.enc x1] h (Rt (Value.int .i64) Q)) {Q : Unit → Hp → Prop} {hp : Hp} (_ : slices_symMergeCmpFunc_api_Piece k a0 a1 a2 a3 a4_f Q hp), CallsH Try.prog 86 #[Sl.enc a0, .int .i64 a1, .int .i64 a2, .int .i64 a3, a4] hp (Rt (fun _ : Unit => .tuple #[]) Q) := by
 intro k
 induction k with
 | zero =>
  intros
  rename_i h
  exact (h : False).elim
 | succ k ih_slices_symMergeCmpFunc_api_Piece =>
  intro a0 a1 a2 a3 a4 a4_f a4_i Q hp h
  unfold slices_symMergeCmpFunc_api_Piece at h
  refine calls_of 220 Try.func86 rfl rfl ?_
  refine qe ?_
  refine qs ?_
  iterate 2 refine qm ?_
  refine qy rfl (y_bin rfl rfl (bin_sub _ _ _)) ?_
  refine qy rfl (y_bin rfl rfl (bin_eql _ _ _)) ?_
  refine qn ?_
  refine qc rfl h (fun h => ?_) fun h => ?_
  ·refine qs ?_
   refine qm ?_
   refine qa ?_
   refine qn ?_
   refine qs ?_
   refine qm ?_
   refine qa ?_
   refine qn ?_
   refine qb ?_
   obtain ⟨I4, m0, h, hI4⟩ := h
   refine wpE_loop (fun m ρ hp => ∃ u1 : Int × Int, (ρ 10 = .int .i64 u1.1 ∧ ρ 11 = .int .i64 u1.2 ∧ ρ 0 = Sl.enc a0 ∧ ρ 1 = .int .i64 a1 ∧ ρ 4 = a4 ∧ True) ∧ I4 m u1 hp) (m := m0) ⟨(a2, a3), ⟨rfl, rfl, rfl, rfl, rfl, trivial⟩, h⟩ ?_
   rintro m ρ hp ⟨u1, ⟨e10, e11, e0, e1, e4, _⟩, h⟩
   replace h := hI4 m u1 hp h
   refine qe ?_
   refine qs ?_
   iterate 2 refine qm ?_
   refine qy rfl (y_bin e10 e11 (bin_lss _ _ _)) ?_
   refine qn ?_
   refine qc rfl h (fun h => ?_) fun h => ?_
   ·refine wpE_skip ?_
    refine wpE_block ?_
    refine qs ?_
    iterate 2 refine qm ?_
    refine qy rfl (y_bin e10 e11 (bin_add _ _ _)) ?_
    refine qy rfl (y_cvi Try.underlying3 Try.underlying36 rfl) ?_
    refine qy rfl (y_bin rfl rfl (bin_shr _ _ _ (by decide))) ?_
    refine qy rfl (y_cvi Try.underlying36 Try.underlying3 rfl) ?_
    refine qa ?_
    refine qn ?_
    refine qe ?_
    refine wpE_draw mixed rfl ?_
    refine qU 0 rfl rfl (fun _ => y_mv) ?_
    refine qU 1 rfl rfl (fun _ => y_mv) ?_
    refine qU 2 rfl rfl (fun _ => y_mv) ?_
    obtain ⟨p50, q6, q60, q61, h⟩ := h
    generalize q69 : p50.add (_ * _) = p5 at h
    refine qU 3 rfl rfl (fun _ => ycast_p (y_ix Try.underlying52 ts60 e0 rfl q6 q60 q61) q69) ?_
    obtain ⟨v7, c8, h⟩ := h
    refine qT 4 9 (fun h => Row h p5 (S_api_Piece.cells v7)) rfl rfl c8 (fun _ c => y_lda ts60 rfl rfl c) ?_
    refine qU 5 rfl rfl (fun _ => y_mv) ?_
    refine qU 6 rfl rfl (fun _ => y_mv) ?_
    obtain ⟨p90, q10, q100, q101, h⟩ := h
    generalize q109 : p90.add (_ * _) = p9 at h
    refine qU 7 rfl rfl (fun _ => ycast_p (y_ix Try.underlying52 ts60 e0 e1 q10 q100 q101) q109) ?_
    obtain ⟨v11, c12, h⟩ := h
    refine qT 8 9 (fun h => Row h p9 (S_api_Piece.cells v11)) rfl rfl c12 (fun _ c => y_lda ts60 rfl rfl c) ?_
    refine wpA_loud (rs := [9]) (by kernel_rfl) rfl ?_
    refine mcons (step_of rfl ?_) mnil
    refine wpL_callv e4 (lcons rfl (lcons rfl lnil)) (a4_i _ _ _ _ h) rfl ?_
    intro r13 hp h
    refine qn ?_
    refine ⟨hs_dead rfl (hs_dead rfl hs_nil), ?_⟩
    refine qU 10 rfl rfl (fun _ => y_bin rfl rfl (bin_lss _ _ _)) ?_
    refine qt (by kernel_rfl) ?_
    refine qc rfl h (fun h => ?_) fun h => ?_
    ·refine qr ?_
     refine qm ?_
     refine qy rfl (y_bin rfl rfl (bin_add _ _ _)) ?_
     refine qa ?_
     refine qn ?_
     obtain ⟨m, hm, h⟩ := h
     exact ⟨m, hm, (IntKind.wrap .i64 ((IntKind.wrap .i64 (iShr .u64 (IntKind.wrap .u64 (IntKind.wrap .i64 (u1.1 + u1.2))) (1 : Int))) + (1 : Int)), u1.2), ⟨rfl, e11, e0, e1, e4, trivial⟩, h⟩
    ·refine qr ?_
     refine qm ?_
     refine qa ?_
     refine qn ?_
     obtain ⟨m, hm, h⟩ := h
     exact ⟨m, hm, (u1.1, IntKind.wrap .i64 (iShr .u64 (IntKind.wrap .u64 (IntKind.wrap .i64 (u1.1 + u1.2))) (1 : Int))), ⟨e10, rfl, e0, e1, e4, trivial⟩, h⟩
   ·refine wpE_exit ?_
    refine qe ?_
    refine qs ?_
    refine qm ?_
    refine qa ?_
    refine qn ?_
    refine wpE_block ?_
    obtain ⟨I18, m0, h, hI18⟩ := h
    refine wpE_loop (fun m ρ hp => ∃ u15 : Int, (ρ 13 = .int .i64 u15 ∧ ρ 0 = Sl.enc a0 ∧ ρ 10 = .int .i64 u1.1 ∧ True) ∧ I18 m u15 hp) (m := m0) ⟨a1, ⟨e1, e0, e10, trivial⟩, h⟩ ?_
    rintro m ρ hp ⟨u15, ⟨e13, e0, e10, _⟩, h⟩
    replace h := hI18 m u15 hp h
    refine qe ?_
    refine qs ?_
    iterate 2 refine qm ?_
    refine qy rfl (y_bin e10 rfl (bin_sub _ _ _)) ?_
    refine qy rfl (y_bin e13 rfl (bin_lss _ _ _)) ?_
    refine qn ?_
    refine qc rfl h (fun h => ?_) fun h => ?_
    ·refine wpE_skip ?_
     refine qb ?_
     refine wpE_draw mixed rfl ?_
     refine qU 0 rfl rfl (fun _ => y_mv) ?_
     refine qU 1 rfl rfl (fun _ => y_mv) ?_
     refine qU 2 rfl rfl (fun _ => y_mv) ?_
     refine qU 3 rfl rfl (fun _ => y_mv) ?_
     refine qU 4 rfl rfl (fun _ => y_bin e13 rfl (bin_add _ _ _)) ?_
     refine qU 5 rfl rfl (fun _ => y_mv) ?_
     refine qU 6 rfl rfl (fun _ => y_mv) ?_
     refine qU 7 rfl rfl (fun _ => y_bin e13 rfl (bin_add _ _ _)) ?_
     obtain ⟨p190, q20, q200, q201, h⟩ := h
     generalize q209 : p190.add (_ * _) = p19 at h
     refine qU 8 rfl rfl (fun _ => ycast_p (y_ix Try.underlying52 ts60 e0 rfl q20 q200 q201) q209) ?_
     obtain ⟨v21, c22, h⟩ := h
     refine qT 9 15 (fun h => Row h p19 (S_api_Piece.cells v21)) rfl rfl c22 (fun _ c => y_lda ts60 rfl rfl c) ?_
     refine qU 10 rfl rfl (fun _ => y_mv) ?_
     refine qU 11 rfl rfl (fun _ => y_mv) ?_
     obtain ⟨p230, q24, q240, q241, h⟩ := h
     generalize q249 : p230.add (_ * _) = p23 at h
     refine qU 12 rfl rfl (fun _ => ycast_p (y_ix Try.underlying52 ts60 e0 e13 q24 q240 q241) q249) ?_
     obtain ⟨v25, c26, h⟩ := h
     refine qT 13 15 (fun h => Row h p23 (S_api_Piece.cells v25)) rfl rfl c26 (fun _ c => y_lda ts60 rfl rfl c) ?_
     obtain ⟨p270, q28, q280, q281, h⟩ := h
     generalize q289 : p270.add (_ * _) = p27 at h
     refine qU 14 rfl rfl (fun _ => ycast_p (y_ix Try.underlying52 ts60 e0 e13 q28 q280 q281) q289) ?_
     refine wpA_loud (rs := [15]) (by kernel_rfl) rfl ?_
     refine mcons (step_of rfl ?_) mnil
     refine wpL_sta ts60 rfl rfl rfl rfl h ?_
     generalize setCells _ _ _ _ = hp
     intro h
     refine qn ?_
     refine ⟨hs_dead rfl (hs_dead rfl hs_nil), ?_⟩
     obtain ⟨p300, q31, q310, q311, h⟩ := h
     generalize q319 : p300.add (_ * _) = p30 at h
     refine qU 16 rfl rfl (fun _ => ycast_p (y_ix Try.underlying52 ts60 e0 rfl q31 q310 q311) q319) ?_
     refine wpA_loud (rs := [17]) (by kernel_rfl) rfl ?_
     refine mcons (step_of rfl ?_) mnil
     refine wpL_sta ts60 rfl rfl rfl rfl h ?_
     generalize setCells _ _ _ _ = hp
     intro h
     refine qn ?_
     refine ⟨hs_dead rfl (hs_dead rfl hs_nil), ?_⟩
     refine qt (by kernel_rfl) ?_
     refine qr ?_
     refine qm ?_
     refine qy rfl (y_bin e13 rfl (bin_add _ _ _)) ?_
     refine qa ?_
     refine qn ?_
     obtain ⟨m, hm, h⟩ := h
     exact ⟨m, hm, (IntKind.wrap .i64 (u15 + (1 : Int))), ⟨rfl, e0, e10, trivial⟩, h⟩
    ·refine wpE_exit ?_
     refine wpE_ret ?_
     exact body_r () rfl rs_nil rfl h
  ·refine wpE_skip ?_
   refine qe ?_
   refine qs ?_
   iterate 2 refine qm ?_
   refine qy rfl (y_bin rfl rfl (bin_sub _ _ _)) ?_
   refine qy rfl (y_bin rfl rfl (bin_eql _ _ _)) ?_
   refine qn ?_
   refine qc rfl h (fun h => ?_) fun h => ?_
   ·refine qs ?_
    refine qm ?_
    refine qa ?_
    refine qn ?_
    refine qs ?_
    refine qm ?_
    refine qa ?_
    refine qn ?_
    refine qb ?_
    obtain ⟨I36, m0, h, hI36⟩ := h
    refine wpE_loop (fun m ρ hp => ∃ u33 : Int × Int, (ρ 14 = .int .i64 u33.1 ∧ ρ 15 = .int .i64 u33.2 ∧ ρ 0 = Sl.enc a0 ∧ ρ 2 = .int .i64 a2 ∧ ρ 4 = a4 ∧ True) ∧ I36 m u33 hp) (m := m0) ⟨(a1, a2), ⟨rfl, rfl, rfl, rfl, rfl, trivial⟩, h⟩ ?_
    rintro m ρ hp ⟨u33, ⟨e14, e15, e0, e2, e4, _⟩, h⟩
    replace h := hI36 m u33 hp h
    refine qe ?_
    refine qs ?_
    iterate 2 refine qm ?_
    refine qy rfl (y_bin e14 e15 (bin_lss _ _ _)) ?_
    refine qn ?_
    refine qc rfl h (fun h => ?_) fun h => ?_
    ·refine wpE_skip ?_
     refine wpE_block ?_
     refine qs ?_
     iterate 2 refine qm ?_
     refine qy rfl (y_bin e14 e15 (bin_add _ _ _)) ?_
     refine qy rfl (y_cvi Try.underlying3 Try.underlying36 rfl) ?_
     refine qy rfl (y_bin rfl rfl (bin_shr _ _ _ (by decide))) ?_
     refine qy rfl (y_cvi Try.underlying36 Try.underlying3 rfl) ?_
     refine qa ?_
     refine qn ?_
     refine qe ?_
     refine wpE_draw mixed rfl ?_
     refine qU 0 rfl rfl (fun _ => y_mv) ?_
     refine qU 1 rfl rfl (fun _ => y_mv) ?_
     refine qU 2 rfl rfl (fun _ => y_mv) ?_
     obtain ⟨p370, q38, q380, q381, h⟩ := h
     generalize q389 : p370.add (_ * _) = p37 at h
     refine qU 3 rfl rfl (fun _ => ycast_p (y_ix Try.underlying52 ts60 e0 e2 q38 q380 q381) q389) ?_
     obtain ⟨v39, c40, h⟩ := h
     refine qT 4 9 (fun h => Row h p37 (S_api_Piece.cells v39)) rfl rfl c40 (fun _ c => y_lda ts60 rfl rfl c) ?_
     refine qU 5 rfl rfl (fun _ => y_mv) ?_
     refine qU 6 rfl rfl (fun _ => y_mv) ?_
     obtain ⟨p410, q42, q420, q421, h⟩ := h
     generalize q429 : p410.add (_ * _) = p41 at h
     refine qU 7 rfl rfl (fun _ => ycast_p (y_ix Try.underlying52 ts60 e0 rfl q42 q420 q421) q429) ?_
     obtain ⟨v43, c44, h⟩ := h
     refine qT 8 9 (fun h => Row h p41 (S_api_Piece.cells v43)) rfl rfl c44 (fun _ c => y_lda ts60 rfl rfl c) ?_
     refine wpA_loud (rs := [9]) (by kernel_rfl) rfl ?_
     refine mcons (step_of rfl ?_) mnil
     refine wpL_callv e4 (lcons rfl (lcons rfl lnil)) (a4_i _ _ _ _ h) rfl ?_
     intro r45 hp h
     refine qn ?_
     refine ⟨hs_dead rfl (hs_dead rfl hs_nil), ?_⟩
     refine qU 10 rfl rfl (fun _ => y_bin rfl rfl (bin_lss _ _ _)) ?_
     refine qU 11 rfl rfl (fun _ => y_not rfl) ?_
     refine qt (by kernel_rfl) ?_
     refine qc rfl h (fun h => ?_) fun h => ?_
     ·refine qr ?_
      refine qm ?_
      refine qy rfl (y_bin rfl rfl (bin_add _ _ _)) ?_
      refine qa ?_
      refine qn ?_
      obtain ⟨m, hm, h⟩ := h
      exact ⟨m, hm, (IntKind.wrap .i64 ((IntKind.wrap .i64 (iShr .u64 (IntKind.wrap .u64 (IntKind.wrap .i64 (u33.1 + u33.2))) (1 : Int))) + (1 : Int)), u33.2), ⟨rfl, e15, e0, e2, e4, trivial⟩, h⟩
     ·refine qr ?_
      refine qm ?_
      refine qa ?_
      refine qn ?_
      obtain ⟨m, hm, h⟩ := h
      exact ⟨m, hm, (u33.1, IntKind.wrap .i64 (iShr .u64 (IntKind.wrap .u64 (IntKind.wrap .i64 (u33.1 + u33.2))) (1 : Int))), ⟨e14, rfl, e0, e2, e4, trivial⟩, h⟩
    ·refine wpE_exit ?_
     refine qe ?_
     refine qs ?_
     refine qm ?_
     refine qa ?_
     refine qn ?_
     refine wpE_block ?_
     obtain ⟨I50, m0, h, hI50⟩ := h
     refine wpE_loop (fun m ρ hp => ∃ u47 : Int, (ρ 17 = .int .i64 u47 ∧ ρ 0 = Sl.enc a0 ∧ ρ 14 = .int .i64 u33.1 ∧ True) ∧ I50 m u47 hp) (m := m0) ⟨a2, ⟨e2, e0, e14, trivial⟩, h⟩ ?_
     rintro m ρ hp ⟨u47, ⟨e17, e0, e14, _⟩, h⟩
     replace h := hI50 m u47 hp h
     refine qe ?_
     refine qs ?_
     iterate 2 refine qm ?_
     refine qy rfl (y_bin e17 e14 (bin_gtr _ _ _)) ?_
     refine qn ?_
     refine qc rfl h (fun h => ?_) fun h => ?_
     ·refine wpE_skip ?_
      refine qb ?_
      refine wpE_draw mixed rfl ?_
      refine qU 0 rfl rfl (fun _ => y_mv) ?_
      refine qU 1 rfl rfl (fun _ => y_mv) ?_
      refine qU 2 rfl rfl (fun _ => y_mv) ?_
      refine qU 3 rfl rfl (fun _ => y_mv) ?_
      refine qU 4 rfl rfl (fun _ => y_bin e17 rfl (bin_sub _ _ _)) ?_
      refine qU 5 rfl rfl (fun _ => y_mv) ?_
      refine qU 6 rfl rfl (fun _ => y_mv) ?_
      refine qU 7 rfl rfl (fun _ => y_bin e17 rfl (bin_sub _ _ _)) ?_
      obtain ⟨p510, q52, q520, q521, h⟩ := h
      generalize q529 : p510.add (_ * _) = p51 at h
      refine qU 8 rfl rfl (fun _ => ycast_p (y_ix Try.underlying52 ts60 e0 rfl q52 q520 q521) q529) ?_
      obtain ⟨v53, c54, h⟩ := h
      refine qT 9 15 (fun h => Row h p51 (S_api_Piece.cells v53)) rfl rfl c54 (fun _ c => y_lda ts60 rfl rfl c) ?_
      refine qU 10 rfl rfl (fun _ => y_mv) ?_
      refine qU 11 rfl rfl (fun _ => y_mv) ?_
      obtain ⟨p550, q56, q560, q561, h⟩ := h
      generalize q569 : p550.add (_ * _) = p55 at h
      refine qU 12 rfl rfl (fun _ => ycast_p (y_ix Try.underlying52 ts60 e0 e17 q56 q560 q561) q569) ?_
      obtain ⟨v57, c58, h⟩ := h
      refine qT 13 15 (fun h => Row h p55 (S_api_Piece.cells v57)) rfl rfl c58 (fun _ c => y_lda ts60 rfl rfl c) ?_
      obtain ⟨p590, q60, q600, q601, h⟩ := h
      generalize q609 : p590.add (_ * _) = p59 at h
      refine qU 14 rfl rfl (fun _ => ycast_p (y_ix Try.underlying52 ts60 e0 e17 q60 q600 q601) q609) ?_
      refine wpA_loud (rs := [15]) (by kernel_rfl) rfl ?_
      refine mcons (step_of rfl ?_) mnil
      refine wpL_sta ts60 rfl rfl rfl rfl h ?_
      generalize setCells _ _ _ _ = hp
      intro h
      refine qn ?_
      refine ⟨hs_dead rfl (hs_dead rfl hs_nil), ?_⟩
      obtain ⟨p620, q63, q630, q631, h⟩ := h
      generalize q639 : p620.add (_ * _) = p62 at h
      refine qU 16 rfl rfl (fun _ => ycast_p (y_ix Try.underlying52 ts60 e0 rfl q63 q630 q631) q639) ?_
      refine wpA_loud (rs := [17]) (by kernel_rfl) rfl ?_
      refine mcons (step_of rfl ?_) mnil
      refine wpL_sta ts60 rfl rfl rfl rfl h ?_
      generalize setCells _ _ _ _ = hp
      intro h
      refine qn ?_
      refine ⟨hs_dead rfl (hs_dead rfl hs_nil), ?_⟩
      refine qt (by kernel_rfl) ?_
      refine qr ?_
      refine qm ?_
      refine qy rfl (y_bin e17 rfl (bin_sub _ _ _)) ?_
      refine qa ?_
      refine qn ?_
      obtain ⟨m, hm, h⟩ := h
      exact ⟨m, hm, (IntKind.wrap .i64 (u47 - (1 : Int))), ⟨rfl, e0, e14, trivial⟩, h⟩
     ·refine wpE_exit ?_
      refine wpE_ret ?_
      exact body_r () rfl rs_nil rfl h
   ·refine wpE_skip ?_
    refine qs ?_
    iterate 2 refine qm ?_
    refine qy rfl (y_bin rfl rfl (bin_add _ _ _)) ?_
    refine qy rfl (y_cvi Try.underlying3 Try.underlying36 rfl) ?_
    refine qy rfl (y_bin rfl rfl (bin_shr _ _ _ (by decide))) ?_
    refine qy rfl (y_cvi Try.underlying36 Try.underlying3 rfl) ?_
    refine qa ?_
    refine qn ?_
    refine qs ?_
    iterate 2 refine qm ?_
    refine qy rfl (y_bin rfl rfl (bin_add _ _ _)) ?_
    refine qa ?_
    refine qn ?_
    refine qs ?_
    iterate 2 refine qa ?_
    refine qn ?_
    obtain ⟨K66, jK66, h⟩ := h
    refine wpE_seqJH K66 (fun (x65 : Int × Int) (ρ : Env) (hp : Hp) => ρ 20 = .int .i64 x65.1 ∧ ρ 21 = .int .i64 x65.2 ∧ ρ 0 = Sl.enc a0 ∧ ρ 1 = .int .i64 a1 ∧ ρ 2 = .int .i64 a2 ∧ ρ 3 = .int .i64 a3 ∧ ρ 4 = a4 ∧ ρ 18 = .int .i64 (IntKind.wrap .i64 (iShr .u64 (IntKind.wrap .u64 (IntKind.wrap .i64 (a1 + a3))) (1 : Int))) ∧ ρ 19 = .int .i64 (IntKind.wrap .i64 ((IntKind.wrap .i64 (iShr .u64 (IntKind.wrap .u64 (IntKind.wrap .i64 (a1 + a3))) (1 : Int))) + a2)) ∧ True) (fun ρ x65 hp f h => ?_) ?_
    ·obtain ⟨e20, e21, e0, e1, e2, e3, e4, e18, e19, _⟩ := f
     replace h := jK66 x65 hp h
     refine qs ?_
     refine qm ?_
     refine qy rfl (y_bin e19 rfl (bin_sub _ _ _)) ?_
     refine qa ?_
     refine qn ?_
     refine qb ?_
     obtain ⟨I71, m0, h, hI71⟩ := h
     refine wpE_loop (fun m ρ hp => ∃ u68 : Int × Int, (ρ 20 = .int .i64 u68.1 ∧ ρ 21 = .int .i64 u68.2 ∧ ρ 0 = Sl.enc a0 ∧ ρ 1 = .int .i64 a1 ∧ ρ 2 = .int .i64 a2 ∧ ρ 3 = .int .i64 a3 ∧ ρ 4 = a4 ∧ ρ 18 = .int .i64 (IntKind.wrap .i64 (iShr .u64 (IntKind.wrap .u64 (IntKind.wrap .i64 (a1 + a3))) (1 : Int))) ∧ ρ 19 = .int .i64 (IntKind.wrap .i64 ((IntKind.wrap .i64 (iShr .u64 (IntKind.wrap .u64 (IntKind.wrap .i64 (a1 + a3))) (1 : Int))) + a2)) ∧ ρ 22 = .int .i64 (IntKind.wrap .i64 ((IntKind.wrap .i64 ((IntKind.wrap .i64 (iShr .u64 (IntKind.wrap .u64 (IntKind.wrap .i64 (a1 + a3))) (1 : Int))) + a2)) - (1 : Int))) ∧ True) ∧ I71 m u68 hp) (m := m0) ⟨(x65.1, x65.2), ⟨e20, e21, e0, e1, e2, e3, e4, e18, e19, rfl, trivial⟩, h⟩ ?_
     rintro m ρ hp ⟨u68, ⟨e20, e21, e0, e1, e2, e3, e4, e18, e19, e22, _⟩, h⟩
     replace h := hI71 m u68 hp h
     refine qe ?_
     refine qs ?_
     iterate 2 refine qm ?_
     refine qy rfl (y_bin e20 e21 (bin_lss _ _ _)) ?_
     refine qn ?_
     refine qc rfl h (fun h => ?_) fun h => ?_
     ·refine wpE_skip ?_
      refine wpE_block ?_
      refine qs ?_
      iterate 2 refine qm ?_
      refine qy rfl (y_bin e20 e21 (bin_add _ _ _)) ?_
      refine qy rfl (y_cvi Try.underlying3 Try.underlying36 rfl) ?_
      refine qy rfl (y_bin rfl rfl (bin_shr _ _ _ (by decide))) ?_
      refine qy rfl (y_cvi Try.underlying36 Try.underlying3 rfl) ?_
      refine qa ?_
      refine qn ?_
      refine qe ?_
      refine wpE_draw mixed rfl ?_
      refine qU 0 rfl rfl (fun _ => y_mv) ?_
      refine qU 1 rfl rfl (fun _ => y_mv) ?_
      refine qU 2 rfl rfl (fun _ => y_mv) ?_
      refine qU 3 rfl rfl (fun _ => y_mv) ?_
      refine qU 4 rfl rfl (fun _ => y_bin e22 rfl (bin_sub _ _ _)) ?_
      obtain ⟨p720, q73, q730, q731, h⟩ := h
      generalize q739 : p720.add (_ * _) = p72 at h
      refine qU 5 rfl rfl (fun _ => ycast_p (y_ix Try.underlying52 ts60 e0 rfl q73 q730 q731) q739) ?_
      obtain ⟨v74, c75, h⟩ := h
      refine qT 6 11 (fun h => Row h p72 (S_api_Piece.cells v74)) rfl rfl c75 (fun _ c => y_lda ts60 rfl rfl c) ?_
      refine qU 7 rfl rfl (fun _ => y_mv) ?_
      refine qU 8 rfl rfl (fun _ => y_mv) ?_
      obtain ⟨p760, q77, q770, q771, h⟩ := h
      generalize q779 : p760.add (_ * _) = p76 at h
      refine qU 9 rfl rfl (fun _ => ycast_p (y_ix Try.underlying52 ts60 e0 rfl q77 q770 q771) q779) ?_
      obtain ⟨v78, c79, h⟩ := h
      refine qT 10 11 (fun h => Row h p76 (S_api_Piece.cells v78)) rfl rfl c79 (fun _ c => y_lda ts60 rfl rfl c) ?_
      refine wpA_loud (rs := [11]) (by kernel_rfl) rfl ?_
      refine mcons (step_of rfl ?_) mnil
      refine wpL_callv e4 (lcons rfl (lcons rfl lnil)) (a4_i _ _ _ _ h) rfl ?_
      intro r80 hp h
      refine qn ?_
      refine ⟨hs_dead rfl (hs_dead rfl hs_nil), ?_⟩
      refine qU 12 rfl rfl (fun _ => y_bin rfl rfl (bin_lss _ _ _)) ?_
      refine qU 13 rfl rfl (fun _ => y_not rfl) ?_
      refine qt (by kernel_rfl) ?_
      refine qc rfl h (fun h => ?_) fun h => ?_
      ·refine qr ?_
       refine qm ?_
       refine qy rfl (y_bin rfl rfl (bin_add _ _ _)) ?_
       refine qa ?_
       refine qn ?_
       obtain ⟨m, hm, h⟩ := h
       exact ⟨m, hm, (IntKind.wrap .i64 ((IntKind.wrap .i64 (iShr .u64 (IntKind.wrap .u64 (IntKind.wrap .i64 (u68.1 + u68.2))) (1 : Int))) + (1 : Int)), u68.2), ⟨rfl, e21, e0, e1, e2, e3, e4, e18, e19, e22, trivial⟩, h⟩
      ·refine qr ?_
       refine qm ?_
       refine qa ?_
       refine qn ?_
       obtain ⟨m, hm, h⟩ := h
       exact ⟨m, hm, (u68.1, IntKind.wrap .i64 (iShr .u64 (IntKind.wrap .u64 (IntKind.wrap .i64 (u68.1 + u68.2))) (1 : Int))), ⟨e20, rfl, e0, e1, e2, e3, e4, e18, e19, e22, trivial⟩, h⟩
     ·refine wpE_exit ?_
      refine qs ?_
      iterate 2 refine qm ?_
      refine qy rfl (y_bin e19 e20 (bin_sub _ _ _)) ?_
      refine qa ?_
      refine qn ?_
      obtain ⟨K83, jK83, h⟩ := h
      refine wpE_seqJH K83 (fun (x82 : Unit) (ρ : Env) (hp : Hp) => ρ 0 = Sl.enc a0 ∧ ρ 1 = .int .i64 a1 ∧ ρ 3 = .int .i64 a3 ∧ ρ 4 = a4 ∧ ρ 18 = .int .i64 (IntKind.wrap .i64 (iShr .u64 (IntKind.wrap .u64 (IntKind.wrap .i64 (a1 + a3))) (1 : Int))) ∧ ρ 20 = .int .i64 u68.1 ∧ ρ 24 = .int .i64 (IntKind.wrap .i64 ((IntKind.wrap .i64 ((IntKind.wrap .i64 (iShr .u64 (IntKind.wrap .u64 (IntKind.wrap .i64 (a1 + a3))) (1 : Int))) + a2)) - u68.1)) ∧ True) (fun ρ x82 hp f h => ?_) ?_
      ·obtain ⟨e0, e1, e3, e4, e18, e20, e24, _⟩ := f
       replace h := jK83 x82 hp h
       obtain ⟨K86, jK86, h⟩ := h
       refine wpE_seqJH K86 (fun (x85 : Unit) (ρ : Env) (hp : Hp) => ρ 0 = Sl.enc a0 ∧ ρ 3 = .int .i64 a3 ∧ ρ 4 = a4 ∧ ρ 18 = .int .i64 (IntKind.wrap .i64 (iShr .u64 (IntKind.wrap .u64 (IntKind.wrap .i64 (a1 + a3))) (1 : Int))) ∧ ρ 24 = .int .i64 (IntKind.wrap .i64 ((IntKind.wrap .i64 ((IntKind.wrap .i64 (iShr .u64 (IntKind.wrap .u64 (IntKind.wrap .i64 (a1 + a3))) (1 : Int))) + a2)) - u68.1)) ∧ True) (fun ρ x85 hp f h => ?_) ?_
       ·obtain ⟨e0, e3, e4, e18, e24, _⟩ := f
        replace h := jK86 x85 hp h
        obtain ⟨K89, jK89, h⟩ := h
        refine wpE_seqJH K89 (fun (x88 : Bool) (ρ : Env) (hp : Hp) => ρ 213 = .bool x88 ∧ ρ 0 = Sl.enc a0 ∧ ρ 3 = .int .i64 a3 ∧ ρ 4 = a4 ∧ ρ 18 = .int .i64 (IntKind.wrap .i64 (iShr .u64 (IntKind.wrap .u64 (IntKind.wrap .i64 (a1 + a3))) (1 : Int))) ∧ ρ 24 = .int .i64 (IntKind.wrap .i64 ((IntKind.wrap .i64 ((IntKind.wrap .i64 (iShr .u64 (IntKind.wrap .u64 (IntKind.wrap .i64 (a1 + a3))) (1 : Int))) + a2)) - u68.1)) ∧ True) (fun ρ x88 hp f h => ?_) ?_
        ·obtain ⟨e213, e0, e3, e4, e18, e24, _⟩ := f
         replace h := jK89 x88 hp h
         refine qc e213 h (fun h => ?_) fun h => ?_
         ·refine qr ?_
          iterate 5 refine qm ?_
          refine wpL_call (vs := [Sl.enc a0, .int .i64 (IntKind.wrap .i64 (iShr .u64 (IntKind.wrap .u64 (IntKind.wrap .i64 (a1 + a3))) (1 : Int))), .int .i64 (IntKind.wrap .i64 ((IntKind.wrap .i64 ((IntKind.wrap .i64 (iShr .u64 (IntKind.wrap .u64 (IntKind.wrap .i64 (a1 + a3))) (1 : Int))) + a2)) - u68.1)), .int .i64 a3, a4]) tc86 (lcons e0 (lcons e18 (lcons e24 (lcons e3 (lcons e4 lnil))))) (ih_slices_symMergeCmpFunc_api_Piece a4_i h) rfl ?_
          intro r91 hp h
          refine qn ?_
          exact body_n () rfl rs_nil rfl h
         ·refine wpE_skip ?_
          exact body_n () rfl rs_nil rfl h
        ·refine qr ?_
         iterate 2 refine qm ?_
         refine qy rfl (y_bin e18 e24 (bin_lss _ _ _)) ?_
         refine qm ?_
         refine wpL_split h (fun g93 h => ?_) (fun g93 h => ?_)
         ·refine qg rfl g93 ?_
          refine qm ?_
          refine qg rfl g93 ?_
          refine qm ?_
          refine qg rfl g93 ?_
          refine qy rfl (y_bin e24 e3 (bin_lss _ _ _)) ?_
          refine qy rfl (y_pickt (vbool rfl g93)) ?_
          refine qn ?_
          exact ⟨(decide ((IntKind.wrap .i64 ((IntKind.wrap .i64 ((IntKind.wrap .i64 (iShr .u64 (IntKind.wrap .u64 (IntKind.wrap .i64 (a1 + a3))) (1 : Int))) + a2)) - u68.1)) < a3)), ⟨rfl, e0, e3, e4, e18, e24, trivial⟩, h⟩
         ·refine qp rfl g93 ?_
          iterate 2 refine qp rfl g93 ?_
          refine qy rfl (y_pickf (vbool rfl g93)) ?_
          refine qn ?_
          exact ⟨false, ⟨rfl, e0, e3, e4, e18, e24, trivial⟩, h⟩
       ·obtain ⟨K95, jK95, h⟩ := h
        refine wpE_seqJH K95 (fun (x94 : Bool) (ρ : Env) (hp : Hp) => ρ 199 = .bool x94 ∧ ρ 0 = Sl.enc a0 ∧ ρ 1 = .int .i64 a1 ∧ ρ 3 = .int .i64 a3 ∧ ρ 4 = a4 ∧ ρ 18 = .int .i64 (IntKind.wrap .i64 (iShr .u64 (IntKind.wrap .u64 (IntKind.wrap .i64 (a1 + a3))) (1 : Int))) ∧ ρ 20 = .int .i64 u68.1 ∧ ρ 24 = .int .i64 (IntKind.wrap .i64 ((IntKind.wrap .i64 ((IntKind.wrap .i64 (iShr .u64 (IntKind.wrap .u64 (IntKind.wrap .i64 (a1 + a3))) (1 : Int))) + a2)) - u68.1)) ∧ True) (fun ρ x94 hp f h => ?_) ?_
        ·obtain ⟨e199, e0, e1, e3, e4, e18, e20, e24, _⟩ := f
         replace h := jK95 x94 hp h
         refine qc e199 h (fun h => ?_) fun h => ?_
         ·refine qr ?_
          iterate 5 refine qm ?_
          refine wpL_call (vs := [Sl.enc a0, .int .i64 a1, .int .i64 u68.1, .int .i64 (IntKind.wrap .i64 (iShr .u64 (IntKind.wrap .u64 (IntKind.wrap .i64 (a1 + a3))) (1 : Int))), a4]) tc86 (lcons e0 (lcons e1 (lcons e20 (lcons e18 (lcons e4 lnil))))) (ih_slices_symMergeCmpFunc_api_Piece a4_i h) rfl ?_
          intro r97 hp h
          refine qn ?_
          exact ⟨(), ⟨e0, e3, e4, e18, e24, trivial⟩, h⟩
         ·refine wpE_skip ?_
          exact ⟨(), ⟨e0, e3, e4, e18, e24, trivial⟩, h⟩
        ·refine qr ?_
         iterate 2 refine qm ?_
         refine qy rfl (y_bin e1 e20 (bin_lss _ _ _)) ?_
         refine qm ?_
         refine wpL_split h (fun g99 h => ?_) (fun g99 h => ?_)
         ·refine qg rfl g99 ?_
          refine qm ?_
          refine qg rfl g99 ?_
          refine qm ?_
          refine qg rfl g99 ?_
          refine qy rfl (y_bin e20 e18 (bin_lss _ _ _)) ?_
          refine qy rfl (y_pickt (vbool rfl g99)) ?_
          refine qn ?_
          exact ⟨(decide (u68.1 < (IntKind.wrap .i64 (iShr .u64 (IntKind.wrap .u64 (IntKind.wrap .i64 (a1 + a3))) (1 : Int))))), ⟨rfl, e0, e1, e3, e4, e18, e20, e24, trivial⟩, h⟩
         ·refine qp rfl g99 ?_
          iterate 2 refine qp rfl g99 ?_
          refine qy rfl (y_pickf (vbool rfl g99)) ?_
          refine qn ?_
          exact ⟨false, ⟨rfl, e0, e1, e3, e4, e18, e20, e24, trivial⟩, h⟩
      ·obtain ⟨K101, jK101, h⟩ := h
       refine wpE_seqJH K101 (fun (x100 : Bool) (ρ : Env) (hp : Hp) => ρ 185 = .bool x100 ∧ ρ 0 = Sl.enc a0 ∧ ρ 1 = .int .i64 a1 ∧ ρ 2 = .int .i64 a2 ∧ ρ 3 = .int .i64 a3 ∧ ρ 4 = a4 ∧ ρ 18 = .int .i64 (IntKind.wrap .i64 (iShr .u64 (IntKind.wrap .u64 (IntKind.wrap .i64 (a1 + a3))) (1 : Int))) ∧ ρ 20 = .int .i64 u68.1 ∧ ρ 24 = .int .i64 (IntKind.wrap .i64 ((IntKind.wrap .i64 ((IntKind.wrap .i64 (iShr .u64 (IntKind.wrap .u64 (IntKind.wrap .i64 (a1 + a3))) (1 : Int))) + a2)) - u68.1)) ∧ True) (fun ρ x100 hp f h => ?_) ?_
       ·obtain ⟨e185, e0, e1, e2, e3, e4, e18, e20, e24, _⟩ := f
        replace h := jK101 x100 hp h
        refine qc e185 h (fun h => ?_) fun h => ?_
        ·refine qr ?_
         iterate 5 refine qm ?_
         refine wpL_call (vs := [Sl.enc a0, .int .i64 u68.1, .int .i64 a2, .int .i64 (IntKind.wrap .i64 ((IntKind.wrap .i64 ((IntKind.wrap .i64 (iShr .u64 (IntKind.wrap .u64 (IntKind.wrap .i64 (a1 + a3))) (1 : Int))) + a2)) - u68.1)), a4]) tc91 (lcons e0 (lcons e20 (lcons e2 (lcons e24 (lcons e4 lnil))))) (slices_rotateCmpFunc_api_Piece.lift a4_i h) rfl ?_
         intro r103 hp h
         refine qn ?_
         exact ⟨(), ⟨e0, e1, e3, e4, e18, e20, e24, trivial⟩, h⟩
        ·refine wpE_skip ?_
         exact ⟨(), ⟨e0, e1, e3, e4, e18, e20, e24, trivial⟩, h⟩
       ·refine qr ?_
        iterate 2 refine qm ?_
        refine qy rfl (y_bin e20 e2 (bin_lss _ _ _)) ?_
        refine qm ?_
        refine wpL_split h (fun g105 h => ?_) (fun g105 h => ?_)
        ·refine qg rfl g105 ?_
         refine qm ?_
         refine qg rfl g105 ?_
         refine qm ?_
         refine qg rfl g105 ?_
         refine qy rfl (y_bin e2 rfl (bin_lss _ _ _)) ?_
         refine qy rfl (y_pickt (vbool rfl g105)) ?_
         refine qn ?_
         exact ⟨(decide (a2 < (IntKind.wrap .i64 ((IntKind.wrap .i64 ((IntKind.wrap .i64 (iShr .u64 (IntKind.wrap .u64 (IntKind.wrap .i64 (a1 + a3))) (1 : Int))) + a2)) - u68.1)))), ⟨rfl, e0, e1, e2, e3, e4, e18, e20, rfl, trivial⟩, h⟩
        ·refine qp rfl g105 ?_
         iterate 2 refine qp rfl g105 ?_
         refine qy rfl (y_pickf (vbool rfl g105)) ?_
         refine qn ?_
         exact ⟨false, ⟨rfl, e0, e1, e2, e3, e4, e18, e20, rfl, trivial⟩, h⟩
    ·refine qs ?_
     iterate 2 refine qm ?_
     refine qy rfl (y_bin rfl rfl (bin_gtr _ _ _)) ?_
     refine qn ?_
     refine qc rfl h (fun h => ?_) fun h => ?_
     ·refine qs ?_
      iterate 2 refine qm ?_
      refine qy rfl (y_bin rfl rfl (bin_sub _ _ _)) ?_
      refine qa ?_
      refine qn ?_
      refine qr ?_
      refine qm ?_
      refine qa ?_
      refine qn ?_
      exact ⟨(IntKind.wrap .i64 ((IntKind.wrap .i64 ((IntKind.wrap .i64 (iShr .u64 (IntKind.wrap .u64 (IntKind.wrap .i64 (a1 + a3))) (1 : Int))) + a2)) - a3), IntKind.wrap .i64 (iShr .u64 (IntKind.wrap .u64 (IntKind.wrap .i64 (a1 + a3))) (1 : Int))), ⟨rfl, rfl, rfl, rfl, rfl, rfl, rfl, rfl, rfl, trivial⟩, h⟩
     ·refine qs ?_
      refine qm ?_
      refine qa ?_
      refine qn ?_
      refine qr ?_
      refine qm ?_
      refine qa ?_
      refine qn ?_
      exact ⟨(a1, a2), ⟨rfl, rfl, rfl, rfl, rfl, rfl, rfl, rfl, rfl, trivial⟩, h⟩

set_option maxHeartbeats 4000000 in
theorem slices_stableCmpFunc_api_Piece.lift {a0 : Sl} {a1 : Int} {a2 : Value} {a2_f : S_api_Piece → S_api_Piece → (Int → Hp → Prop) → Hp → Prop} (a2_i : ∀ x0 x1 Q h, a2_f x0 x1 Q h → CallsV Try.prog a2 [S_api_Piece.enc x0, S_api_Piece.enc x1] h (Rt (Value.int .i64) Q)) {Q : Unit → Hp → Prop} {hp : Hp} (h : slices_stableCmpFunc_api_Piece a0 a1 a2_f Q hp) : CallsH Try.prog 81 #[Sl.enc a0, .int .i64 a1, a2] hp (Rt (fun _ : Unit => .tuple #[]) Q) := by
 unfold slices_stableCmpFunc_api_Piece at h
 refine calls_of 63 Try.func81 rfl rfl ?_
 refine qs ?_
 refine qa ?_
 refine qn ?_
 refine qs ?_
 refine qm ?_
 iterate 2 refine qa ?_
 refine qn ?_
 refine qb ?_
 obtain ⟨I4, m0, h, hI4⟩ := h
 refine wpE_loop (fun m ρ hp => ∃ u1 : Int × Int, (ρ 7 = .int .i64 u1.1 ∧ ρ 8 = .int .i64 u1.2 ∧ ρ 0 = Sl.enc a0 ∧ ρ 1 = .int .i64 a1 ∧ ρ 2 = a2 ∧ ρ 6 = .int .i64 20 ∧ True) ∧ I4 m u1 hp) (m := m0) ⟨(0, 20), ⟨rfl, rfl, rfl, rfl, rfl, rfl, trivial⟩, h⟩ ?_
 rintro m ρ hp ⟨u1, ⟨e7, e8, e0, e1, e2, e6, _⟩, h⟩
 replace h := hI4 m u1 hp h
 refine qe ?_
 refine qs ?_
 iterate 2 refine qm ?_
 refine qy rfl (y_bin e8 e1 (bin_leq _ _ _)) ?_
 refine qn ?_
 refine qc rfl h (fun h => ?_) fun h => ?_
 ·refine wpE_skip ?_
  refine wpE_block ?_
  refine qs ?_
  iterate 4 refine qm ?_
  refine wpL_call (vs := [Sl.enc a0, .int .i64 u1.1, .int .i64 u1.2, a2]) tc85 (lcons e0 (lcons e7 (lcons e8 (lcons e2 lnil)))) (slices_insertionSortCmpFunc_api_Piece.lift a2_i h) rfl ?_
  intro r5 hp h
  refine qn ?_
  refine qs ?_
  refine qm ?_
  refine qa ?_
  refine qn ?_
  refine qr ?_
  iterate 2 refine qm ?_
  refine qy rfl (y_bin e8 e6 (bin_add _ _ _)) ?_
  refine qa ?_
  refine qn ?_
  obtain ⟨m, hm, h⟩ := h
  exact ⟨m, hm, (u1.2, IntKind.wrap .i64 (u1.2 + (20 : Int))), ⟨e8, rfl, e0, e1, e2, e6, trivial⟩, h⟩
 ·refine wpE_exit ?_
  refine qs ?_
  iterate 4 refine qm ?_
  refine wpL_call (vs := [Sl.enc a0, .int .i64 u1.1, .int .i64 a1, a2]) tc85 (lcons e0 (lcons e7 (lcons e1 (lcons e2 lnil)))) (slices_insertionSortCmpFunc_api_Piece.lift a2_i h) rfl ?_
  intro r7 hp h
  refine qn ?_
  refine wpE_block ?_
  obtain ⟨I12, m0, h, hI12⟩ := h
  refine wpE_loop (fun m ρ hp => ∃ u9 : Int, (ρ 6 = .int .i64 u9 ∧ ρ 0 = Sl.enc a0 ∧ ρ 1 = .int .i64 a1 ∧ ρ 2 = a2 ∧ True) ∧ I12 m u9 hp) (m := m0) ⟨20, ⟨e6, e0, e1, e2, trivial⟩, h⟩ ?_
  rintro m ρ hp ⟨u9, ⟨e6, e0, e1, e2, _⟩, h⟩
  replace h := hI12 m u9 hp h
  refine qe ?_
  refine qs ?_
  iterate 2 refine qm ?_
  refine qy rfl (y_bin e6 e1 (bin_lss _ _ _)) ?_
  refine qn ?_
  refine qc rfl h (fun h => ?_) fun h => ?_
  ·refine wpE_skip ?_
   refine wpE_block ?_
   refine qs ?_
   refine qm ?_
   refine qy rfl (y_bin rfl e6 (bin_mul _ _ _)) ?_
   iterate 2 refine qa ?_
   refine qn ?_
   refine qb ?_
   obtain ⟨I16, m0, h, hI16⟩ := h
   refine wpE_loop (fun m ρ hp => ∃ u13 : Int × Int, (ρ 7 = .int .i64 u13.1 ∧ ρ 8 = .int .i64 u13.2 ∧ ρ 0 = Sl.enc a0 ∧ ρ 1 = .int .i64 a1 ∧ ρ 2 = a2 ∧ ρ 6 = .int .i64 u9 ∧ True) ∧ I16 m u13 hp) (m := m0) ⟨(0, IntKind.wrap .i64 ((2 : Int) * u9)), ⟨rfl, rfl, e0, e1, e2, e6, trivial⟩, h⟩ ?_
   rintro m ρ hp ⟨u13, ⟨e7, e8, e0, e1, e2, e6, _⟩, h⟩
   replace h := hI16 m u13 hp h
   refine qe ?_
   refine qs ?_
   iterate 2 refine qm ?_
   refine qy rfl (y_bin e8 e1 (bin_leq _ _ _)) ?_
   refine qn ?_
   refine qc rfl h (fun h => ?_) fun h => ?_
   ·refine wpE_skip ?_
    refine wpE_block ?_
    refine qs ?_
    iterate 4 refine qm ?_
    refine qy rfl (y_bin e7 e6 (bin_add _ _ _)) ?_
    iterate 2 refine qm ?_
    obtain ⟨k0, h⟩ := h
    refine wpL_call (vs := [Sl.enc a0, .int .i64 u13.1, .int .i64 (IntKind.wrap .i64 (u13.1 + u9)), .int .i64 u13.2, a2]) tc86 (lcons e0 (lcons e7 (lcons rfl (lcons e8 (lcons e2 lnil))))) (slices_symMergeCmpFunc_api_Piece.lift k0 a2_i h) rfl ?_
    intro r17 hp h
    refine qn ?_
    refine qs ?_
    refine qm ?_
    refine qa ?_
    refine qn ?_
    refine qr ?_
    iterate 2 refine qm ?_
    refine qy rfl (y_bin rfl e6 (bin_mul _ _ _)) ?_
    refine qy rfl (y_bin e8 rfl (bin_add _ _ _)) ?_
    refine qa ?_
    refine qn ?_
    obtain ⟨m, hm, h⟩ := h
    exact ⟨m, hm, (u13.2, IntKind.wrap .i64 (u13.2 + (IntKind.wrap .i64 ((2 : Int) * u9)))), ⟨e8, rfl, e0, e1, e2, e6, trivial⟩, h⟩
   ·refine wpE_exit ?_
    obtain ⟨K20, jK20, h⟩ := h
    refine wpE_seqJH K20 (fun (x19 : Unit) (ρ : Env) (hp : Hp) => ρ 0 = Sl.enc a0 ∧ ρ 1 = .int .i64 a1 ∧ ρ 2 = a2 ∧ ρ 6 = .int .i64 u9 ∧ True) (fun ρ x19 hp f h => ?_) ?_
    ·obtain ⟨e0, e1, e2, e6, _⟩ := f
     replace h := jK20 x19 hp h
     refine qr ?_
     refine qm ?_
     refine qy rfl (y_bin e6 rfl (bin_mul _ _ _)) ?_
     refine qa ?_
     refine qn ?_
     obtain ⟨m, hm, h⟩ := h
     exact ⟨m, hm, (IntKind.wrap .i64 (u9 * (2 : Int))), ⟨rfl, e0, e1, e2, trivial⟩, h⟩
    ·refine qs ?_
     iterate 2 refine qm ?_
     refine qy rfl (y_bin e7 e6 (bin_add _ _ _)) ?_
     refine qa ?_
     refine qn ?_
     refine qs ?_
     iterate 2 refine qm ?_
     refine qy rfl (y_bin rfl e1 (bin_lss _ _ _)) ?_
     refine qn ?_
     refine qc rfl h (fun h => ?_) fun h => ?_
     ·refine qr ?_
      iterate 5 refine qm ?_
      obtain ⟨k0, h⟩ := h
      refine wpL_call (vs := [Sl.enc a0, .int .i64 u13.1, .int .i64 (IntKind.wrap .i64 (u13.1 + u9)), .int .i64 a1, a2]) tc86 (lcons e0 (lcons e7 (lcons rfl (lcons e1 (lcons e2 lnil))))) (slices_symMergeCmpFunc_api_Piece.lift k0 a2_i h) rfl ?_
      intro r22 hp h
      refine qn ?_
      exact ⟨(), ⟨e0, e1, e2, e6, trivial⟩, h⟩
     ·refine wpE_skip ?_
      exact ⟨(), ⟨e0, e1, e2, e6, trivial⟩, h⟩
  ·refine wpE_exit ?_
   exact body_n () rfl rs_nil rfl h

set_option maxHeartbeats 4000000 in
theorem slices_SortStableFunc_api_Piece_api_Piece.lift {a0 : Sl} {a1 : Value} {a1_f : S_api_Piece → S_api_Piece → (Int → Hp → Prop) → Hp → Prop} (a1_i : ∀ x0 x1 Q h, a1_f x0 x1 Q h → CallsV Try.prog a1 [S_api_Piece.enc x0, S_api_Piece.enc x1] h (Rt (Value.int .i64) Q)) {Q : Unit → Hp → Prop} {hp : Hp} (h : slices_SortStableFunc_api_Piece_api_Piece a0 a1_f Q hp) : CallsH Try.prog 72 #[Sl.enc a0, a1] hp (Rt (fun _ : Unit => .tuple #[]) Q) := by
 unfold slices_SortStableFunc_api_Piece_api_Piece at h
 refine calls_of 9 Try.func72 rfl rfl ?_
 refine qr ?_
 iterate 2 refine qm ?_
 refine qy rfl (y_lensl Try.underlying52 (lcons rfl lnil)) ?_
 refine qm ?_
 refine wpL_call (vs := [Sl.enc a0, .int .i64 (a0.len : Int), a1]) tc81 (lcons rfl (lcons rfl (lcons rfl lnil))) (slices_stableCmpFunc_api_Piece.lift a1_i h) rfl ?_
 intro r1 hp h
 refine qn ?_
 exact body_n () rfl rs_nil rfl h

set_option maxHeartbeats 4000000 in
theorem join_merged_api_Piece.lift {a0 : Sl} {a1 : Sl} {a2 : Value} {a2_f : S_api_Piece → S_api_Piece → (Int → Hp → Prop) → Hp → Prop} (a2_i : ∀ x0 x1 Q h, a2_f x0 x1 Q h → CallsV Try.prog a2 [S_api_Piece.enc x0, S_api_Piece.enc x1] h (Rt (Value.int .i64) Q)) {a3 : Value} {a3_f : S_api_Piece → S_api_Piece → (S_api_Piece → Hp → Prop) → Hp → Prop} (a3_i : ∀ x0 x1 Q h, a3_f x0 x1 Q h → CallsV Try.prog a3 [S_api_Piece.enc x0, S_api_Piece.enc x1] h (Rt S_api_Piece.enc Q)) {Q : Sl → Hp → Prop} {hp : Hp} (h : join_merged_api_Piece a0 a1 a2_f a3_f Q hp) : CallsH Try.prog 53 #[Sl.enc a0, Sl.enc a1, a2, a3] hp (Rt Sl.enc Q) := by
 unfold join_merged_api_Piece at h
 refine calls_of 60 Try.func53 rfl rfl ?_
 refine qs ?_
 refine qa ?_
 refine qn ?_
 refine qs ?_
 refine qa ?_
 refine qn ?_
 refine qs ?_
 iterate 2 refine qm ?_
 refine wpL_bsl Try.underlying116 ts52 tz52 rfl rfl rfl (pcons rfl (pcons rfl rfl)) rfl h rfl ?_
 intro b1 hp h
 refine wpL_call (vs := [Sl.enc (Sl.mk (some b1) 2 2)]) tc46 (lcons rfl lnil) (slices_Concat_api_Piece_api_Piece.lift h) rfl ?_
 intro r3 hp h
 refine qa ?_
 refine qn ?_
 refine qs ?_
 iterate 2 refine qm ?_
 refine wpL_call (vs := [Sl.enc r3, a2]) tc72 (lcons rfl (lcons rfl lnil)) (slices_SortStableFunc_api_Piece_api_Piece.lift a2_i h) rfl ?_
 intro r5 hp h
 refine qn ?_
 refine qe ?_
 refine qs ?_
 refine qm ?_
 refine qy rfl (y_lensl Try.underlying52 (lcons rfl lnil)) ?_
 refine qm ?_
 refine qn ?_
 refine wpE_block ?_
 obtain ⟨I10, m0, h, hI10⟩ := h
 refine wpE_loop (fun m ρ hp => ∃ u7 : Sl × Int, (ρ 9 = Sl.enc u7.1 ∧ ρ 23 = .int .i64 u7.2 ∧ ρ 2 = a2 ∧ ρ 3 = a3 ∧ ρ 21 = Sl.enc r3 ∧ ρ 22 = .int .i64 (r3.len : Int) ∧ True) ∧ I10 m u7 hp) (m := m0) ⟨(Sl.nil, 0), ⟨rfl, rfl, rfl, rfl, rfl, rfl, trivial⟩, h⟩ ?_
 rintro m ρ hp ⟨u7, ⟨e9, e23, e2, e3, e21, e22, _⟩, h⟩
 replace h := hI10 m u7 hp h
 refine qs ?_
 refine qy rfl (y_bin e23 e22 (bin_lss _ _ _)) ?_
 refine qn ?_
 refine qe ?_
 refine qc rfl h (fun h => ?_) fun h => ?_
 ·refine wpE_skip ?_
  obtain ⟨K12, jK12, h⟩ := h
  refine wpE_seqJH K12 (fun (x11 : Sl) (ρ : Env) (hp : Hp) => ρ 9 = Sl.enc x11 ∧ ρ 2 = a2 ∧ ρ 3 = a3 ∧ ρ 21 = Sl.enc r3 ∧ ρ 22 = .int .i64 (r3.len : Int) ∧ ρ 23 = .int .i64 u7.2 ∧ True) (fun ρ x11 hp f h => ?_) ?_
  ·obtain ⟨e9, e2, e3, e21, e22, e23, _⟩ := f
   replace h := jK12 x11 hp h
   refine qr ?_
   refine qy rfl (y_bin e23 rfl (bin_add _ _ _)) ?_
   refine qm ?_
   refine qn ?_
   obtain ⟨m, hm, h⟩ := h
   exact ⟨m, hm, (x11, IntKind.wrap .i64 (u7.2 + (1 : Int))), ⟨e9, rfl, e2, e3, e21, e22, trivial⟩, h⟩
  ·refine wpE_block ?_
   refine qs ?_
   obtain ⟨p140, q15, q150, q151, h⟩ := h
   generalize q159 : p140.add (_ * _) = p14 at h
   refine qy rfl (ycast_p (y_ix Try.underlying52 ts60 e21 e23 q15 q150 q151) q159) ?_
   obtain ⟨v16, c17, h⟩ := h
   refine qy rfl (y_lda ts60 rfl rfl c17) ?_
   refine wpL_allocX (zs := (S_api_Piece.cells (S_api_Piece.mk 0 (S_api_Stamp.mk 0 0) []))) tz60 rfl Bx.nil h rfl ?_
   intro b18 hp h bx
   refine wpL_staX (L' := [(b18, (S_api_Piece.cells v16))]) (i := 0) (off := 0) (cs' := (S_api_Piece.cells v16)) ts60 rfl rfl rfl rfl bx rfl (by kernel_rfl) h (by kernel_rfl) (by kernel_rfl) ?_
   intro hp h bx
   refine qn ?_
   refine qe ?_
   refine qs ?_
   refine qm ?_
   refine qy rfl (y_lensl Try.underlying52 (lcons e9 lnil)) ?_
   refine qa ?_
   refine qn ?_
   obtain ⟨K22, jK22, h⟩ := h
   refine wpE_seqJH K22 (fun (x21 : Bool) (ρ : Env) (hp : Hp) => ρ 41 = .bool x21 ∧ ρ 2 = a2 ∧ ρ 3 = a3 ∧ ρ 9 = Sl.enc u7.1 ∧ ρ 12 = .pointer (some b18) ∧ ρ 13 = .int .i64 (u7.1.len : Int) ∧ ρ 21 = Sl.enc r3 ∧ ρ 22 = .int .i64 (r3.len : Int) ∧ ρ 23 = .int .i64 u7.2 ∧ Bx hp [(b18, (S_api_Piece.cells v16))]) (fun ρ x21 hp f h => ?_) ?_
   ·obtain ⟨e41, e2, e3, e9, e12, e13, e21, e22, e23, bx⟩ := f
    replace h := jK22 x21 hp h
    refine qc e41 h (fun h => ?_) fun h => ?_
    ·refine qe ?_
     refine wpE_draw mixed rfl ?_
     refine qU 0 rfl rfl (fun _ => y_mv) ?_
     refine qU 1 rfl rfl (fun _ => y_mv) ?_
     refine qU 2 rfl rfl (fun _ => y_bin e13 rfl (bin_sub _ _ _)) ?_
     refine qU 3 rfl rfl (fun _ => y_mv) ?_
     refine qU 4 rfl rfl (fun _ => y_mv) ?_
     refine qU 5 rfl rfl (fun _ => y_mv) ?_
     refine qU 6 rfl rfl (fun _ => y_bin e13 rfl (bin_sub _ _ _)) ?_
     obtain ⟨p240, q25, q250, q251, h⟩ := h
     generalize q259 : p240.add (_ * _) = p24 at h
     refine qU 7 rfl rfl (fun _ => ycast_p (y_ix Try.underlying52 ts60 e9 rfl q25 q250 q251) q259) ?_
     obtain ⟨v26, c27, h⟩ := h
     refine qT 8 10 (fun h => Row h p24 (S_api_Piece.cells v26)) rfl rfl c27 (fun _ c => y_lda ts60 rfl rfl c) ?_
     refine qT 9 10 (fun h => Row h b18 (S_api_Piece.cells v16)) rfl rfl (Bx.row bx 0 0 rfl (by kernel_rfl)) (fun _ c => y_lda (cs := (S_api_Piece.cells v16)) ts60 rfl e12 c) ?_
     refine wpA_loud (rs := [10]) (by kernel_rfl) rfl ?_
     refine mcons (step_of rfl ?_) mnil
     refine wpL_callv e3 (lcons rfl (lcons rfl lnil)) (a3_i _ _ _ _ h) rfl ?_
     intro r28 hp h
     refine qn ?_
     refine ⟨hs_dead rfl (hs_dead rfl hs_nil), ?_⟩
     obtain ⟨p300, q31, q310, q311, h⟩ := h
     generalize q319 : p300.add (_ * _) = p30 at h
     refine qU 11 rfl rfl (fun _ => ycast_p (y_ix Try.underlying52 ts60 e9 rfl q31 q310 q311) q319) ?_
     refine wpA_loud (rs := [12]) (by kernel_rfl) rfl ?_
     refine mcons (step_of rfl ?_) mnil
     refine wpL_sta ts60 rfl rfl rfl rfl h ?_
     generalize setCells _ _ _ _ = hp
     intro h
     refine qn ?_
     refine ⟨hs_dead rfl (hs_dead rfl hs_nil), ?_⟩
     refine qt (by kernel_rfl) ?_
     refine wpE_exit ?_
     exact ⟨u7.1, ⟨e9, e2, e3, e21, e22, e23, trivial⟩, h⟩
    ·refine wpE_skip ?_
     refine qr ?_
     refine qm ?_
     refine qy rfl (y_lda (cs := (S_api_Piece.cells v16)) ts60 rfl e12 (Bx.row bx 0 0 rfl (by kernel_rfl))) ?_
     refine wpL_bsf Try.underlying52 ts60 tz60 rfl rfl (pcons rfl rfl) (full_cons rfl rfl full_nil) rfl h rfl ?_
     intro b33 hp h
     refine wpL_appsI Try.underlying52 Try.underlying52 ts60 ti60 (by decide) tz60 rfl (lcons e9 (lcons rfl lnil)) h rfl ?_
     intro v35 hp h
     refine qa ?_
     refine qn ?_
     exact ⟨v35, ⟨rfl, e2, e3, e21, e22, e23, trivial⟩, h⟩
   ·refine wpE_draw mixed rfl ?_
    refine qU 0 rfl rfl (fun _ => y_mv) ?_
    refine qU 1 rfl rfl (fun _ => y_bin rfl rfl (bin_gtr _ _ _)) ?_
    refine qU 2 rfl rfl (fun _ => y_mv) ?_
    refine wpA_split h (fun g37 h => ?_) (fun g37 h => ?_)
    ·refine qV 3 rfl rfl g37 (fun _ => y_mv) ?_
     refine qV 4 rfl rfl g37 (fun _ => y_mv) ?_
     refine qV 5 rfl rfl g37 (fun _ => y_mv) ?_
     refine qV 6 rfl rfl g37 (fun _ => y_bin rfl rfl (bin_sub _ _ _)) ?_
     obtain ⟨p380, q39, q390, q391, h⟩ := h
     generalize q399 : p380.add (_ * _) = p38 at h
     refine qV 7 rfl rfl g37 (fun _ => ycast_p (y_ix Try.underlying52 ts60 e9 rfl q39 q390 q391) q399) ?_
     obtain ⟨v40, c41, h⟩ := h
     refine wpA_take (i := 8) (kk := 10) (fun h => Row h p38 (S_api_Piece.cells v40)) rfl rfl rfl (by kernel_rfl) (by kernel_rfl) (wt_bool rfl rfl rfl (vbool rfl g37) rfl) (fun _ _ _ _ h => h) c41 (fun _ c => y_lda ts60 rfl rfl c) ?_
     refine wpA_take (i := 9) (kk := 10) (fun h => Row h b18 (S_api_Piece.cells v16)) rfl rfl rfl (by kernel_rfl) (by kernel_rfl) (wt_bool rfl rfl rfl (vbool rfl g37) rfl) (fun _ _ _ _ h => h) (Bx.row bx 0 0 rfl (by kernel_rfl)) (fun _ c => y_lda (cs := (S_api_Piece.cells v16)) ts60 rfl rfl c) ?_
     refine wpA_loud (rs := [10]) (by kernel_rfl) rfl ?_
     refine mcons (step_of rfl ?_) mnil
     refine qg rfl g37 ?_
     refine wpL_callv e2 (lcons rfl (lcons rfl lnil)) (a2_i _ _ _ _ h) rfl ?_
     intro r42 hp h
     obtain ⟨kx, h⟩ := h
     replace bx := Bx.keep bx kx rfl
     refine qn ?_
     refine ⟨hs_dead rfl (hs_dead rfl hs_nil), ?_⟩
     refine qV 11 rfl rfl g37 (fun _ => y_bin rfl rfl (bin_eql _ _ _)) ?_
     refine qU 12 rfl rfl (fun _ => y_pickt (vbool rfl g37)) ?_
     refine qt (by kernel_rfl) ?_
     exact ⟨(r42 == (0 : Int)), ⟨rfl, e2, e3, e9, rfl, rfl, e21, e22, e23, bx⟩, h⟩
    ·refine qW 3 rfl rfl g37 ?_
     refine qW 4 rfl rfl g37 ?_
     refine qW 5 rfl rfl g37 ?_
     refine qW 6 rfl rfl g37 ?_
     refine qW 7 rfl rfl g37 ?_
     refine qW 8 rfl rfl g37 ?_
     refine qW 9 rfl rfl g37 ?_
     refine qW 10 rfl rfl g37 ?_
     refine qW 11 rfl rfl g37 ?_
     refine qU 12 rfl rfl (fun _ => y_pickf (vbool rfl g37)) ?_
     refine qt (by kernel_rfl) ?_
     exact ⟨false, ⟨rfl, e2, e3, e9, rfl, rfl, e21, e22, e23, bx⟩, h⟩
 ·refine wpE_exit ?_
  refine qs ?_
  refine qm ?_
  refine qa ?_
  refine qn ?_
  refine wpE_ret ?_
  exact body_r u7.1 rfl (rs_tmp e9 rs_nil) rfl h

set_option maxHeartbeats 4000000 in
theorem join_listed_1.lift {a0 : S_api_Piece} {a1 : S_api_Piece} {Q : Int → Hp → Prop} {hp : Hp} (h : join_listed_1 a0 a1 Q hp) : CallsH Try.prog 54 #[S_api_Piece.enc a0, S_api_Piece.enc a1] hp (Rt (Value.int .i64) Q) := by
 unfold join_listed_1 at h
 refine calls_of 10 Try.func54 rfl rfl ?_
 refine qs ?_
 refine wpL_boxX (vs := (S_api_Piece.cells a0)) rfl rfl Bx.nil h rfl ?_
 intro b1 hp h bx
 refine wpL_boxX (vs := (S_api_Piece.cells a1)) rfl rfl bx h rfl ?_
 intro b3 hp h bx
 refine qa ?_
 refine qn ?_
 refine qs ?_
 refine qy rfl (y_fa fa60_0 rfl) ?_
 refine qy rfl (y_ld (v := ((Value.int .i64) a0.Index)) ts3 rfl (Bx.cell bx 1 0 rfl (by kernel_rfl))) ?_
 refine qy rfl (y_fa fa60_0 rfl) ?_
 refine qy rfl (y_ld (v := ((Value.int .i64) a1.Index)) ts3 rfl (Bx.cell bx 0 0 rfl (by kernel_rfl))) ?_
 refine wpL_call (vs := [.int .i64 a0.Index, .int .i64 a1.Index]) tc41 (lcons rfl (lcons rfl lnil)) (cmp_Compare_int.lift h) rfl ?_
 intro r5 hp h
 refine qa ?_
 refine qn ?_
 refine wpE_ret ?_
 exact body_r r5 rfl (rs_tmp rfl rs_nil) rfl h

set_option maxHeartbeats 4000000 in
theorem join_greater_api_Piece.lift {a0 : S_api_Piece} {a1 : S_api_Piece} {a2 : Value} {a2_f : S_api_Piece → S_api_Piece → (Int → Hp → Prop) → Hp → Prop} (a2_i : ∀ x0 x1 Q h, a2_f x0 x1 Q h → CallsV Try.prog a2 [S_api_Piece.enc x0, S_api_Piece.enc x1] h (Rt (Value.int .i64) Q)) {Q : S_api_Piece → Hp → Prop} {hp : Hp} (h : join_greater_api_Piece a0 a1 a2_f Q hp) : CallsH Try.prog 56 #[S_api_Piece.enc a0, S_api_Piece.enc a1, a2] hp (Rt S_api_Piece.enc Q) := by
 unfold join_greater_api_Piece at h
 refine calls_of 14 Try.func56 rfl rfl ?_
 refine qs ?_
 refine wpL_boxX (vs := (S_api_Piece.cells a0)) rfl rfl Bx.nil h rfl ?_
 intro b1 hp h bx
 refine wpL_boxX (vs := (S_api_Piece.cells a1)) rfl rfl bx h rfl ?_
 intro b3 hp h bx
 refine wpL_allocX (zs := (S_api_Piece.cells (S_api_Piece.mk 0 (S_api_Stamp.mk 0 0) []))) tz60 rfl bx h rfl ?_
 intro b5 hp h bx
 refine qn ?_
 refine qe ?_
 refine qs ?_
 refine qm ?_
 refine qy rfl (y_lda (cs := (S_api_Piece.cells a0)) ts60 rfl rfl (Bx.row bx 2 0 rfl (by kernel_rfl))) ?_
 refine qy rfl (y_lda (cs := (S_api_Piece.cells a1)) ts60 rfl rfl (Bx.row bx 1 0 rfl (by kernel_rfl))) ?_
 refine wpL_callv rfl (lcons rfl (lcons rfl lnil)) (a2_i _ _ _ _ h) rfl ?_
 intro r7 hp h
 obtain ⟨kx, h⟩ := h
 replace bx := Bx.keep bx kx rfl
 refine qy rfl (y_bin rfl rfl (bin_lss _ _ _)) ?_
 refine qn ?_
 refine qc rfl h (fun h => ?_) fun h => ?_
 ·refine qs ?_
  refine qy rfl (y_lda (cs := (S_api_Piece.cells a1)) ts60 rfl rfl (Bx.row bx 1 0 rfl (by kernel_rfl))) ?_
  refine wpL_staX (L' := [(b5, (S_api_Piece.cells a1)), (b3, (S_api_Piece.cells a1)), (b1, (S_api_Piece.cells a0))]) (i := 0) (off := 0) (cs' := (S_api_Piece.cells a1)) ts60 rfl rfl rfl rfl bx rfl (by kernel_rfl) h (by kernel_rfl) (by kernel_rfl) ?_
  intro hp h bx
  refine qn ?_
  refine wpE_ret ?_
  exact body_r a1 rfl (rs_cella ts60 rfl rfl (Bx.row bx 0 0 rfl (by kernel_rfl)) rs_nil) rfl h
 ·refine wpE_skip ?_
  refine qs ?_
  refine qy rfl (y_lda (cs := (S_api_Piece.cells a0)) ts60 rfl rfl (Bx.row bx 2 0 rfl (by kernel_rfl))) ?_
  refine wpL_staX (L' := [(b5, (S_api_Piece.cells a0)), (b3, (S_api_Piece.cells a1)), (b1, (S_api_Piece.cells a0))]) (i := 0) (off := 0) (cs' := (S_api_Piece.cells a0)) ts60 rfl rfl rfl rfl bx rfl (by kernel_rfl) h (by kernel_rfl) (by kernel_rfl) ?_
  intro hp h bx
  refine qn ?_
  refine wpE_ret ?_
  exact body_r a0 rfl (rs_cella ts60 rfl rfl (Bx.row bx 0 0 rfl (by kernel_rfl)) rs_nil) rfl h

set_option maxHeartbeats 4000000 in
theorem cmp_isNaN_string.lift {a0 : Str} {Q : Bool → Hp → Prop} {hp : Hp} (h : cmp_isNaN_string a0 Q hp) : CallsH Try.prog 74 #[vS a0] hp (Rt Value.bool Q) := by
 unfold cmp_isNaN_string at h
 refine calls_of 6 Try.func74 rfl rfl ?_
 refine qs ?_
 refine qa ?_
 refine qn ?_
 refine qs ?_
 iterate 2 refine qm ?_
 refine qy rfl (y_bin rfl rfl (bin_sneq _ _)) ?_
 refine qa ?_
 refine qn ?_
 refine wpE_ret ?_
 exact body_r (a0 != a0) rfl (rs_tmp rfl rs_nil) rfl h

set_option maxHeartbeats 4000000 in
theorem cmp_Compare_string.lift {a0 : Str} {a1 : Str} {Q : Int → Hp → Prop} {hp : Hp} (h : cmp_Compare_string a0 a1 Q hp) : CallsH Try.prog 60 #[vS a0, vS a1] hp (Rt (Value.int .i64) Q) := by
 unfold cmp_Compare_string at h
 refine calls_of 20 Try.func60 rfl rfl ?_
 refine qs ?_
 refine qa ?_
 refine qn ?_
 refine qs ?_
 refine qm ?_
 refine wpL_call (vs := [vS a0]) tc74 (lcons rfl lnil) (cmp_isNaN_string.lift h) rfl ?_
 intro r1 hp h
 refine qa ?_
 refine qn ?_
 refine qs ?_
 refine qm ?_
 refine wpL_call (vs := [vS a1]) tc74 (lcons rfl lnil) (cmp_isNaN_string.lift h) rfl ?_
 intro r3 hp h
 refine qa ?_
 refine qn ?_
 refine qe ?_
 refine qs ?_
 refine qm ?_
 refine qn ?_
 refine qc rfl h (fun h => ?_) fun h => ?_
 ·refine qe ?_
  refine qs ?_
  refine qm ?_
  refine qn ?_
  refine qc rfl h (fun h => ?_) fun h => ?_
  ·refine qs ?_
   refine qa ?_
   refine qn ?_
   refine wpE_ret ?_
   exact body_r 0 rfl (rs_tmp rfl rs_nil) rfl h
  ·refine wpE_skip ?_
   refine qs ?_
   refine qa ?_
   refine qn ?_
   refine wpE_ret ?_
   exact body_r (-1) rfl (rs_tmp rfl rs_nil) rfl h
 ·refine wpE_skip ?_
  refine qe ?_
  refine qs ?_
  refine qm ?_
  refine qn ?_
  refine qc rfl h (fun h => ?_) fun h => ?_
  ·refine qs ?_
   refine qa ?_
   refine qn ?_
   refine wpE_ret ?_
   exact body_r 1 rfl (rs_tmp rfl rs_nil) rfl h
  ·refine wpE_skip ?_
   refine qe ?_
   refine qs ?_
   iterate 2 refine qm ?_
   refine qy rfl (y_bin rfl rfl (bin_slss _ _)) ?_
   refine qn ?_
   refine qc rfl h (fun h => ?_) fun h => ?_
   ·refine qs ?_
    refine qa ?_
    refine qn ?_
    refine wpE_ret ?_
    exact body_r (-1) rfl (rs_tmp rfl rs_nil) rfl h
   ·refine wpE_skip ?_
    refine qe ?_
    refine qs ?_
    iterate 2 refine qm ?_
    refine qy rfl (y_bin rfl rfl (bin_sgtr _ _)) ?_
    refine qn ?_
    refine qc rfl h (fun h => ?_) fun h => ?_
    ·refine qs ?_
     refine qa ?_
     refine qn ?_
     refine wpE_ret ?_
     exact body_r 1 rfl (rs_tmp rfl rs_nil) rfl h
    ·refine wpE_skip ?_
     refine qs ?_
     refine qa ?_
     refine qn ?_
     refine wpE_ret ?_
     exact body_r 0 rfl (rs_tmp rfl rs_nil) rfl h

set_option maxHeartbeats 4000000 in
theorem join_pieces.lift {a0 : S_api_Piece} {a1 : S_api_Piece} {Q : Int → Hp → Prop} {hp : Hp} (h : join_pieces a0 a1 Q hp) : CallsH Try.prog 57 #[S_api_Piece.enc a0, S_api_Piece.enc a1] hp (Rt (Value.int .i64) Q) := by
 unfold join_pieces at h
 refine calls_of 17 Try.func57 rfl rfl ?_
 refine qs ?_
 refine wpL_boxX (vs := (S_api_Piece.cells a0)) rfl rfl Bx.nil h rfl ?_
 intro b1 hp h bx
 refine wpL_boxX (vs := (S_api_Piece.cells a1)) rfl rfl bx h rfl ?_
 intro b3 hp h bx
 refine qa ?_
 refine qn ?_
 refine qe ?_
 refine wpE_draw mixed rfl ?_
 refine qU 0 rfl rfl (fun _ => y_fa fa60_1 rfl) ?_
 refine qT 1 4 (fun h => Row h (b1.add 1) (S_api_Stamp.cells a0.At)) rfl rfl (Bx.row bx 1 1 rfl (by kernel_rfl)) (fun _ c => y_lda (cs := (S_api_Stamp.cells a0.At)) ts27 rfl rfl c) ?_
 refine qU 2 rfl rfl (fun _ => y_fa fa60_1 rfl) ?_
 refine qT 3 4 (fun h => Row h (b3.add 1) (S_api_Stamp.cells a1.At)) rfl rfl (Bx.row bx 0 1 rfl (by kernel_rfl)) (fun _ c => y_lda (cs := (S_api_Stamp.cells a1.At)) ts27 rfl rfl c) ?_
 refine qU 5 rfl rfl (fun _ => y_fa fa60_2 rfl) ?_
 refine qT 6 9 (fun h => Hp.cell? h (b1.add 3) = some (vS a0.Data)) rfl rfl (Bx.cell bx 1 3 rfl (by kernel_rfl)) (fun _ c => y_ld (v := (vS a0.Data)) ts9 rfl c) ?_
 refine qU 7 rfl rfl (fun _ => y_fa fa60_2 rfl) ?_
 refine qT 8 9 (fun h => Hp.cell? h (b3.add 3) = some (vS a1.Data)) rfl rfl (Bx.cell bx 0 3 rfl (by kernel_rfl)) (fun _ c => y_ld (v := (vS a1.Data)) ts9 rfl c) ?_
 refine wpA_loud (rs := [4]) (by kernel_rfl) rfl ?_
 refine mcons (step_of rfl ?_) mnil
 refine wpL_call (vs := [S_api_Stamp.enc a0.At, S_api_Stamp.enc a1.At]) tc27 (lcons rfl (lcons rfl lnil)) (join_stamps.lift h) rfl ?_
 intro r5 hp h
 obtain ⟨kx, h⟩ := h
 replace bx := Bx.keep bx kx rfl
 refine qn ?_
 refine ⟨hs_live (Bx.cell bx 0 3 rfl (by kernel_rfl)) (hs_live (Bx.cell bx 1 3 rfl (by kernel_rfl)) (hs_dead rfl (hs_dead rfl hs_nil))), ?_⟩
 refine wpA_loud (rs := [9]) (by kernel_rfl) rfl ?_
 refine mcons (step_of rfl ?_) mnil
 refine wpL_call (vs := [vS a0.Data, vS a1.Data]) tc60 (lcons rfl (lcons rfl lnil)) (cmp_Compare_string.lift h) rfl ?_
 intro r7 hp h
 refine qn ?_
 refine ⟨hs_dead rfl (hs_dead rfl (hs_dead rfl (hs_dead rfl hs_nil))), ?_⟩
 refine wpA_loud (rs := [10]) (by kernel_rfl) rfl ?_
 refine mcons (step_of rfl ?_) mnil
 refine wpL_bsl Try.underlying23 ts3 tz3 rfl rfl rfl (pcons rfl (pcons rfl rfl)) rfl h rfl ?_
 intro b9 hp h
 refine qn ?_
 refine ⟨hs_dead rfl (hs_dead rfl (hs_dead rfl (hs_dead rfl hs_nil))), ?_⟩
 refine wpA_loud (rs := [11]) (by kernel_rfl) rfl ?_
 refine mcons (step_of rfl ?_) mnil
 refine wpL_call (vs := [Sl.enc (Sl.mk (some b9) 2 2)]) tc40 (lcons rfl lnil) (cmp_Or_int.lift h) rfl ?_
 intro r11 hp h
 refine qn ?_
 refine ⟨hs_dead rfl (hs_dead rfl (hs_dead rfl (hs_dead rfl hs_nil))), ?_⟩
 refine qU 12 rfl rfl (fun _ => y_as) ?_
 refine qt (by kernel_rfl) ?_
 refine wpE_ret ?_
 exact body_r r11 rfl (rs_tmp rfl rs_nil) rfl h

set_option maxHeartbeats 4000000 in
theorem join_listed_2.lift {a0 : S_api_Piece} {a1 : S_api_Piece} {Q : S_api_Piece → Hp → Prop} {hp : Hp} (h : join_listed_2 a0 a1 Q hp) : CallsH Try.prog 55 #[S_api_Piece.enc a0, S_api_Piece.enc a1] hp (Rt S_api_Piece.enc Q) := by
 unfold join_listed_2 at h
 refine calls_of 8 Try.func55 rfl rfl ?_
 refine qs ?_
 refine wpL_boxX (vs := (S_api_Piece.cells a0)) rfl rfl Bx.nil h rfl ?_
 intro b1 hp h bx
 refine wpL_boxX (vs := (S_api_Piece.cells a1)) rfl rfl bx h rfl ?_
 intro b3 hp h bx
 refine wpL_allocX (zs := (S_api_Piece.cells (S_api_Piece.mk 0 (S_api_Stamp.mk 0 0) []))) tz60 rfl bx h rfl ?_
 intro b5 hp h bx
 refine qn ?_
 refine qs ?_
 refine qy rfl (y_lda (cs := (S_api_Piece.cells a0)) ts60 rfl rfl (Bx.row bx 2 0 rfl (by kernel_rfl))) ?_
 refine qy rfl (y_lda (cs := (S_api_Piece.cells a1)) ts60 rfl rfl (Bx.row bx 1 0 rfl (by kernel_rfl))) ?_
 refine wpL_call (vs := [S_api_Piece.enc a0, S_api_Piece.enc a1, .func (.func 57) #[] #[]]) tc56 (lcons rfl (lcons rfl (lcons rfl lnil))) (join_greater_api_Piece.lift (fun x0 x1 Q h hm => ⟨57, [], [], rfl, tc57, join_pieces.lift hm⟩) h) rfl ?_
 intro r7 hp h
 obtain ⟨kx, h⟩ := h
 replace bx := Bx.keep (bx.sub (L' := [(b5, (S_api_Piece.cells (S_api_Piece.mk 0 (S_api_Stamp.mk 0 0) [])))]) (.cons_cons _ (.cons _ (.cons _ .slnil)))) kx rfl
 refine wpL_staX (L' := [(b5, (S_api_Piece.cells r7))]) (i := 0) (off := 0) (cs' := (S_api_Piece.cells r7)) ts60 rfl rfl rfl rfl bx rfl (by kernel_rfl) h (by kernel_rfl) (by kernel_rfl) ?_
 intro hp h bx
 refine qn ?_
 refine wpE_ret ?_
 exact body_r r7 rfl (rs_cella ts60 rfl rfl (Bx.row bx 0 0 rfl (by kernel_rfl)) rs_nil) rfl h

set_option maxHeartbeats 4000000 in
theorem join_listed.lift {a0 : Sl} {Q : Sl → Hp → Prop} {hp : Hp} (h : join_listed a0 Q hp) : CallsH Try.prog 32 #[Sl.enc a0] hp (Rt Sl.enc Q) := by
 unfold join_listed at h
 refine calls_of 5 Try.func32 rfl rfl ?_
 refine qs ?_
 refine qa ?_
 refine qn ?_
 refine qs ?_
 refine qm ?_
 refine wpL_call (vs := [Sl.enc a0, Sl.enc Sl.nil, .func (.func 54) #[] #[], .func (.func 55) #[] #[]]) tc53 (lcons rfl (lcons rfl (lcons rfl (lcons rfl lnil)))) (join_merged_api_Piece.lift (fun x0 x1 Q h hm => ⟨54, [], [], rfl, tc54, join_listed_1.lift hm⟩) (fun x0 x1 Q h hm => ⟨55, [], [], rfl, tc55, join_listed_2.lift hm⟩) h) rfl ?_
 intro r1 hp h
 refine qa ?_
 refine qn ?_
 refine wpE_ret ?_
 exact body_r r1 rfl (rs_tmp rfl rs_nil) rfl h

set_option maxHeartbeats 4000000 in
theorem slices_Grow_api_Xattr_api_Xattr.lift {a0 : Sl} {a1 : Int} {Q : Sl → Hp → Prop} {hp : Hp} (h : slices_Grow_api_Xattr_api_Xattr a0 a1 Q hp) : CallsH Try.prog 69 #[Sl.enc a0, .int .i64 a1] hp (Rt Sl.enc Q) := by
 unfold slices_Grow_api_Xattr_api_Xattr at h
 refine calls_of 27 Try.func69 rfl rfl ?_
 refine qs ?_
 refine qa ?_
 refine qn ?_
 obtain ⟨K2, jK2, h⟩ := h
 refine wpE_seqJH K2 (fun (x1 : Unit) (ρ : Env) (hp : Hp) => ρ 0 = Sl.enc a0 ∧ ρ 1 = .int .i64 a1 ∧ True) (fun ρ x1 hp f h => ?_) ?_
 ·obtain ⟨e0, e1, _⟩ := f
  replace h := jK2 x1 hp h
  obtain ⟨K5, jK5, h⟩ := h
  refine wpE_seqJH K5 (fun (x4 : Sl) (ρ : Env) (hp : Hp) => ρ 0 = Sl.enc x4 ∧ True) (fun ρ x4 hp f h => ?_) ?_
  ·obtain ⟨e0, _⟩ := f
   replace h := jK5 x4 hp h
   refine qs ?_
   refine qm ?_
   refine qa ?_
   refine qn ?_
   refine wpE_ret ?_
   exact body_r x4 rfl (rs_tmp e0 rs_nil) rfl h
  ·refine qs ?_
   iterate 2 refine qm ?_
   refine qy rfl (y_capsl Try.underlying53 (lcons e0 lnil)) ?_
   refine qm ?_
   refine qy rfl (y_lensl Try.underlying53 (lcons e0 lnil)) ?_
   refine qy rfl (y_bin rfl rfl (bin_sub _ _ _)) ?_
   refine qy rfl (y_bin e1 rfl (bin_sub _ _ _)) ?_
   refine qa ?_
   refine qn ?_
   refine qs ?_
   refine qm ?_
   refine qy rfl (y_bin rfl rfl (bin_gtr _ _ _)) ?_
   refine qn ?_
   refine qc rfl h (fun h => ?_) fun h => ?_
   ·refine qr ?_
    iterate 2 refine qm ?_
    refine qy rfl (y_capsl Try.underlying53 (lcons e0 lnil)) ?_
    obtain ⟨q70, q71, q72, h⟩ := h
    generalize q79 : Sl.sub _ _ _ _ = v8 at h
    refine qy rfl (ycast_l (y_slsl Try.underlying53 ts62 e0 rfl ⟨_, rfl⟩ q70 q71 q72) q79) ?_
    refine qm ?_
    refine wpL_appz Try.underlying53 Try.underlying3 ts62 ti62 (by decide) tz62 rfl rfl rfl (lcons rfl (lcons rfl lnil)) h rfl ?_
    intro v9 hp h
    refine qm ?_
    refine qy rfl (y_lensl Try.underlying53 (lcons e0 lnil)) ?_
    obtain ⟨q110, q111, q112, h⟩ := h
    generalize q119 : Sl.sub _ _ _ _ = v12 at h
    refine qy rfl (ycast_l (y_slsl Try.underlying53 ts62 rfl rfl ⟨_, rfl⟩ q110 q111 q112) q119) ?_
    refine qa ?_
    refine qn ?_
    exact ⟨v12, ⟨rfl, trivial⟩, h⟩
   ·refine wpE_skip ?_
    exact ⟨a0, ⟨e0, trivial⟩, h⟩
 ·refine qs ?_
  refine qm ?_
  refine qy rfl (y_bin rfl rfl (bin_lss _ _ _)) ?_
  refine qn ?_
  refine qc rfl h (fun h => ?_) fun h => ?_
  ·refine qr ?_
   exact h.elim
  ·refine wpE_skip ?_
   exact ⟨(), ⟨rfl, rfl, trivial⟩, h⟩

set_option maxHeartbeats 4000000 in
theorem slices_Concat_api_Xattr_api_Xattr.lift {a0 : Sl} {Q : Sl → Hp → Prop} {hp : Hp} (h : slices_Concat_api_Xattr_api_Xattr a0 Q hp) : CallsH Try.prog 47 #[Sl.enc a0] hp (Rt Sl.enc Q) := by
 unfold slices_Concat_api_Xattr_api_Xattr at h
 refine calls_of 36 Try.func47 rfl rfl ?_
 refine qs ?_
 refine qa ?_
 refine qn ?_
 refine qs ?_
 refine qa ?_
 refine qn ?_
 refine qe ?_
 refine qs ?_
 refine qm ?_
 refine qy rfl (y_lensl Try.underlying118 (lcons rfl lnil)) ?_
 refine qm ?_
 refine qn ?_
 refine wpE_block ?_
 obtain ⟨I4, m0, h, hI4⟩ := h
 refine wpE_loop (fun m ρ hp => ∃ u1 : Int × Int, (ρ 3 = .int .i64 u1.1 ∧ ρ 11 = .int .i64 u1.2 ∧ ρ 0 = Sl.enc a0 ∧ ρ 9 = Sl.enc a0 ∧ ρ 10 = .int .i64 (a0.len : Int) ∧ True) ∧ I4 m u1 hp) (m := m0) ⟨(0, 0), ⟨rfl, rfl, rfl, rfl, rfl, trivial⟩, h⟩ ?_
 rintro m ρ hp ⟨u1, ⟨e3, e11, e0, e9, e10, _⟩, h⟩
 replace h := hI4 m u1 hp h
 refine qs ?_
 refine qy rfl (y_bin e11 e10 (bin_lss _ _ _)) ?_
 refine qn ?_
 refine qe ?_
 refine qc rfl h (fun h => ?_) fun h => ?_
 ·refine wpE_skip ?_
  obtain ⟨K6, jK6, h⟩ := h
  refine wpE_seqJH K6 (fun (x5 : Int) (ρ : Env) (hp : Hp) => ρ 3 = .int .i64 x5 ∧ ρ 0 = Sl.enc a0 ∧ ρ 9 = Sl.enc a0 ∧ ρ 10 = .int .i64 (a0.len : Int) ∧ ρ 11 = .int .i64 u1.2 ∧ True) (fun ρ x5 hp f h => ?_) ?_
  ·obtain ⟨e3, e0, e9, e10, e11, _⟩ := f
   replace h := jK6 x5 hp h
   refine qr ?_
   refine qy rfl (y_bin e11 rfl (bin_add _ _ _)) ?_
   refine qm ?_
   refine qn ?_
   obtain ⟨m, hm, h⟩ := h
   exact ⟨m, hm, (x5, IntKind.wrap .i64 (u1.2 + (1 : Int))), ⟨e3, rfl, e0, e9, e10, trivial⟩, h⟩
  ·refine wpE_block ?_
   refine qs ?_
   obtain ⟨p80, q9, q90, q91, h⟩ := h
   generalize q99 : p80.add (_ * _) = p8 at h
   refine qy rfl (ycast_p (y_ix Try.underlying118 ts53 e9 e11 q9 q90 q91) q99) ?_
   obtain ⟨v10, c11, h⟩ := h
   refine qy rfl (y_ld ts53 rfl c11) ?_
   refine qa ?_
   refine qn ?_
   refine qs ?_
   iterate 2 refine qm ?_
   refine qy rfl (y_lensl Try.underlying53 (lcons rfl lnil)) ?_
   refine qy rfl (y_bin e3 rfl (bin_add _ _ _)) ?_
   refine qa ?_
   refine qn ?_
   refine qs ?_
   refine qm ?_
   refine qy rfl (y_bin rfl rfl (bin_lss _ _ _)) ?_
   refine qn ?_
   refine qc rfl h (fun h => ?_) fun h => ?_
   ·refine qr ?_
    exact h.elim
   ·refine wpE_skip ?_
    exact ⟨(IntKind.wrap .i64 (u1.1 + (v10.len : Int))), ⟨rfl, e0, e9, e10, e11, trivial⟩, h⟩
 ·refine wpE_exit ?_
  refine qs ?_
  refine qm ?_
  refine wpL_call (vs := [Sl.enc Sl.nil, .int .i64 u1.1]) tc69 (lcons rfl (lcons e3 lnil)) (slices_Grow_api_Xattr_api_Xattr.lift h) rfl ?_
  intro r12 hp h
  refine qa ?_
  refine qn ?_
  refine qe ?_
  refine qs ?_
  refine qm ?_
  refine qy rfl (y_lensl Try.underlying118 (lcons e0 lnil)) ?_
  refine qm ?_
  refine qn ?_
  refine wpE_block ?_
  obtain ⟨I17, m0, h, hI17⟩ := h
  refine wpE_loop (fun m ρ hp => ∃ u14 : Sl × Int, (ρ 6 = Sl.enc u14.1 ∧ ρ 27 = .int .i64 u14.2 ∧ ρ 25 = Sl.enc a0 ∧ ρ 26 = .int .i64 (a0.len : Int) ∧ True) ∧ I17 m u14 hp) (m := m0) ⟨(r12, 0), ⟨rfl, rfl, e0, rfl, trivial⟩, h⟩ ?_
  rintro m ρ hp ⟨u14, ⟨e6, e27, e25, e26, _⟩, h⟩
  replace h := hI17 m u14 hp h
  refine qs ?_
  refine qy rfl (y_bin e27 e26 (bin_lss _ _ _)) ?_
  refine qn ?_
  refine qe ?_
  refine qc rfl h (fun h => ?_) fun h => ?_
  ·refine wpE_skip ?_
   refine qb ?_
   refine qs ?_
   obtain ⟨p180, q19, q190, q191, h⟩ := h
   generalize q199 : p180.add (_ * _) = p18 at h
   refine qy rfl (ycast_p (y_ix Try.underlying118 ts53 e25 e27 q19 q190 q191) q199) ?_
   obtain ⟨v20, c21, h⟩ := h
   refine qy rfl (y_ld ts53 rfl c21) ?_
   refine qa ?_
   refine qn ?_
   refine qr ?_
   iterate 2 refine qm ?_
   refine wpL_appsI Try.underlying53 Try.underlying53 ts62 ti62 (by decide) tz62 rfl (lcons e6 (lcons rfl lnil)) h rfl ?_
   intro v22 hp h
   refine qa ?_
   refine qn ?_
   refine qr ?_
   refine qy rfl (y_bin e27 rfl (bin_add _ _ _)) ?_
   refine qm ?_
   refine qn ?_
   obtain ⟨m, hm, h⟩ := h
   exact ⟨m, hm, (v22, IntKind.wrap .i64 (u14.2 + (1 : Int))), ⟨rfl, rfl, e25, e26, trivial⟩, h⟩
  ·refine wpE_exit ?_
   refine qs ?_
   refine qm ?_
   refine qa ?_
   refine qn ?_
   refine wpE_ret ?_
   exact body_r u14.1 rfl (rs_tmp e6 rs_nil) rfl h

set_option maxHeartbeats 4000000 in
theorem slices_insertionSortCmpFunc_api_Xattr.lift {a0 : Sl} {a1 : Int} {a2 : Int} {a3 : Value} {a3_f : S_api_Xattr → S_api_Xattr → (Int → Hp → Prop) → Hp → Prop} (a3_i : ∀ x0 x1 Q h, a3_f x0 x1 Q h → CallsV Try.prog a3 [S_api_Xattr.enc x0, S_api_Xattr.enc x1] h (Rt (Value.int .i64) Q)) {Q : Unit → Hp → Prop} {hp : Hp} (h : slices_insertionSortCmpFunc_api_Xattr a0 a1 a2 a3_f Q hp) : CallsH Try.prog 87 #[Sl.enc a0, .int .i64 a1, .int .i64 a2, a3] hp (Rt (fun _ : Unit => .tuple #[]) Q) := by
 unfold slices_insertionSortCmpFunc_api_Xattr at h
 refine calls_of 53 Try.func87 rfl rfl ?_
 refine qs ?_
 refine qm ?_
 refine qy rfl (y_bin rfl rfl (bin_add _ _ _)) ?_
 refine qa ?_
 refine qn ?_
 refine wpE_block ?_
 obtain ⟨I4, m0, h, hI4⟩ := h
 refine wpE_loop (fun m ρ hp => ∃ u1 : Int, (ρ 8 = .int .i64 u1 ∧ ρ 0 = Sl.enc a0 ∧ ρ 1 = .int .i64 a1 ∧ ρ 2 = .int .i64 a2 ∧ ρ 3 = a3 ∧ True) ∧ I4 m u1 hp) (m := m0) ⟨(IntKind.wrap .i64 (a1 + (1 : Int))), ⟨rfl, rfl, rfl, rfl, rfl, trivial⟩, h⟩ ?_
 rintro m ρ hp ⟨u1, ⟨e8, e0, e1, e2, e3, _⟩, h⟩
 replace h := hI4 m u1 hp h
 refine qe ?_
 refine qs ?_
 iterate 2 refine qm ?_
 refine qy rfl (y_bin e8 e2 (bin_lss _ _ _)) ?_
 refine qn ?_
 refine qc rfl h (fun h => ?_) fun h => ?_
 ·refine wpE_skip ?_
  refine qb ?_
  refine qs ?_
  refine qm ?_
  refine qa ?_
  refine qn ?_
  refine wpE_block ?_
  obtain ⟨I8, m0, h, hI8⟩ := h
  refine wpE_loop (fun m ρ hp => ∃ u5 : Int, (ρ 9 = .int .i64 u5 ∧ ρ 0 = Sl.enc a0 ∧ ρ 1 = .int .i64 a1 ∧ ρ 2 = .int .i64 a2 ∧ ρ 3 = a3 ∧ ρ 8 = .int .i64 u1 ∧ True) ∧ I8 m u5 hp) (m := m0) ⟨u1, ⟨e8, e0, e1, e2, e3, e8, trivial⟩, h⟩ ?_
  rintro m ρ hp ⟨u5, ⟨e9, e0, e1, e2, e3, e8, _⟩, h⟩
  replace h := hI8 m u5 hp h
  refine qe ?_
  obtain ⟨K10, jK10, h⟩ := h
  refine wpE_seqJH K10 (fun (x9 : Bool) (ρ : Env) (hp : Hp) => ρ 34 = .bool x9 ∧ ρ 0 = Sl.enc a0 ∧ ρ 1 = .int .i64 a1 ∧ ρ 2 = .int .i64 a2 ∧ ρ 3 = a3 ∧ ρ 8 = .int .i64 u1 ∧ ρ 9 = .int .i64 u5 ∧ True) (fun ρ x9 hp f h => ?_) ?_
  ·obtain ⟨e34, e0, e1, e2, e3, e8, e9, _⟩ := f
   replace h := jK10 x9 hp h
   refine qc e34 h (fun h => ?_) fun h => ?_
   ·refine wpE_skip ?_
    refine qb ?_
    refine wpE_draw mixed rfl ?_
    refine qU 0 rfl rfl (fun _ => y_mv) ?_
    refine qU 1 rfl rfl (fun _ => y_mv) ?_
    refine qU 2 rfl rfl (fun _ => y_mv) ?_
    refine qU 3 rfl rfl (fun _ => y_mv) ?_
    refine qU 4 rfl rfl (fun _ => y_bin e9 rfl (bin_sub _ _ _)) ?_
    refine qU 5 rfl rfl (fun _ => y_mv) ?_
    refine qU 6 rfl rfl (fun _ => y_mv) ?_
    refine qU 7 rfl rfl (fun _ => y_bin e9 rfl (bin_sub _ _ _)) ?_
    obtain ⟨p120, q13, q130, q131, h⟩ := h
    generalize q139 : p120.add (_ * _) = p12 at h
    refine qU 8 rfl rfl (fun _ => ycast_p (y_ix Try.underlying53 ts62 e0 rfl q13 q130 q131) q139) ?_
    obtain ⟨v14, c15, h⟩ := h
    refine qT 9 15 (fun h => Row h p12 (S_api_Xattr.cells v14)) rfl rfl c15 (fun _ c => y_lda ts62 rfl rfl c) ?_
    refine qU 10 rfl rfl (fun _ => y_mv) ?_
    refine qU 11 rfl rfl (fun _ => y_mv) ?_
    obtain ⟨p160, q17, q170, q171, h⟩ := h
    generalize q179 : p160.add (_ * _) = p16 at h
    refine qU 12 rfl rfl (fun _ => ycast_p (y_ix Try.underlying53 ts62 e0 e9 q17 q170 q171) q179) ?_
    obtain ⟨v18, c19, h⟩ := h
    refine qT 13 15 (fun h => Row h p16 (S_api_Xattr.cells v18)) rfl rfl c19 (fun _ c => y_lda ts62 rfl rfl c) ?_
    obtain ⟨p200, q21, q210, q211, h⟩ := h
    generalize q219 : p200.add (_ * _) = p20 at h
    refine qU 14 rfl rfl (fun _ => ycast_p (y_ix Try.underlying53 ts62 e0 e9 q21 q210 q211) q219) ?_
    refine wpA_loud (rs := [15]) (by kernel_rfl) rfl ?_
    refine mcons (step_of rfl ?_) mnil
    refine wpL_sta ts62 rfl rfl rfl rfl h ?_
    generalize setCells _ _ _ _ = hp
    intro h
    refine qn ?_
    refine ⟨hs_dead rfl (hs_dead rfl hs_nil), ?_⟩
    obtain ⟨p230, q24, q240, q241, h⟩ := h
    generalize q249 : p230.add (_ * _) = p23 at h
    refine qU 16 rfl rfl (fun _ => ycast_p (y_ix Try.underlying53 ts62 e0 rfl q24 q240 q241) q249) ?_
    refine wpA_loud (rs := [17]) (by kernel_rfl) rfl ?_
    refine mcons (step_of rfl ?_) mnil
    refine wpL_sta ts62 rfl rfl rfl rfl h ?_
    generalize setCells _ _ _ _ = hp
    intro h
    refine qn ?_
    refine ⟨hs_dead rfl (hs_dead rfl hs_nil), ?_⟩
    refine qt (by kernel_rfl) ?_
    refine qr ?_
    refine qm ?_
    refine qy rfl (y_bin e9 rfl (bin_sub _ _ _)) ?_
    refine qa ?_
    refine qn ?_
    obtain ⟨m, hm, h⟩ := h
    exact ⟨m, hm, (IntKind.wrap .i64 (u5 - (1 : Int))), ⟨rfl, e0, e1, e2, e3, e8, trivial⟩, h⟩
   ·refine wpE_exit ?_
    refine qr ?_
    refine qm ?_
    refine qy rfl (y_bin e8 rfl (bin_add _ _ _)) ?_
    refine qa ?_
    refine qn ?_
    obtain ⟨m, hm, h⟩ := h
    exact ⟨m, hm, (IntKind.wrap .i64 (u1 + (1 : Int))), ⟨rfl, e0, e1, e2, e3, trivial⟩, h⟩
  ·refine wpE_draw mixed rfl ?_
   refine qU 0 rfl rfl (fun _ => y_mv) ?_
   refine qU 1 rfl rfl (fun _ => y_mv) ?_
   refine qU 2 rfl rfl (fun _ => y_bin e9 e1 (bin_gtr _ _ _)) ?_
   refine qU 3 rfl rfl (fun _ => y_mv) ?_
   refine wpA_split h (fun g26 h => ?_) (fun g26 h => ?_)
   ·refine qV 4 rfl rfl g26 (fun _ => y_mv) ?_
    refine qV 5 rfl rfl g26 (fun _ => y_mv) ?_
    refine qV 6 rfl rfl g26 (fun _ => y_mv) ?_
    obtain ⟨p270, q28, q280, q281, h⟩ := h
    generalize q289 : p270.add (_ * _) = p27 at h
    refine qV 7 rfl rfl g26 (fun _ => ycast_p (y_ix Try.underlying53 ts62 e0 e9 q28 q280 q281) q289) ?_
    obtain ⟨v29, c30, h⟩ := h
    refine wpA_take (i := 8) (kk := 14) (fun h => Row h p27 (S_api_Xattr.cells v29)) rfl rfl rfl (by kernel_rfl) (by kernel_rfl) (wt_bool rfl rfl rfl (vbool rfl g26) rfl) (fun _ _ _ _ h => h) c30 (fun _ c => y_lda ts62 rfl rfl c) ?_
    refine qV 9 rfl rfl g26 (fun _ => y_mv) ?_
    refine qV 10 rfl rfl g26 (fun _ => y_mv) ?_
    refine qV 11 rfl rfl g26 (fun _ => y_bin e9 rfl (bin_sub _ _ _)) ?_
    obtain ⟨p310, q32, q320, q321, h⟩ := h
    generalize q329 : p310.add (_ * _) = p31 at h
    refine qV 12 rfl rfl g26 (fun _ => ycast_p (y_ix Try.underlying53 ts62 e0 rfl q32 q320 q321) q329) ?_
    obtain ⟨v33, c34, h⟩ := h
    refine wpA_take (i := 13) (kk := 14) (fun h => Row h p31 (S_api_Xattr.cells v33)) rfl rfl rfl (by kernel_rfl) (by kernel_rfl) (wt_bool rfl rfl rfl (vbool rfl g26) rfl) (fun _ _ _ _ h => h) c34 (fun _ c => y_lda ts62 rfl rfl c) ?_
    refine wpA_loud (rs := [14]) (by kernel_rfl) rfl ?_
    refine mcons (step_of rfl ?_) mnil
    refine qg rfl g26 ?_
    refine wpL_callv e3 (lcons rfl (lcons rfl lnil)) (a3_i _ _ _ _ h) rfl ?_
    intro r35 hp h
    refine qn ?_
    refine ⟨hs_dead rfl (hs_dead rfl hs_nil), ?_⟩
    refine qV 15 rfl rfl g26 (fun _ => y_bin rfl rfl (bin_lss _ _ _)) ?_
    refine qU 16 rfl rfl (fun _ => y_pickt (vbool rfl g26)) ?_
    refine qt (by kernel_rfl) ?_
    exact ⟨(decide (r35 < (0 : Int))), ⟨rfl, e0, e1, e2, e3, e8, e9, trivial⟩, h⟩
   ·refine qW 4 rfl rfl g26 ?_
    refine qW 5 rfl rfl g26 ?_
    refine qW 6 rfl rfl g26 ?_
    refine qW 7 rfl rfl g26 ?_
    refine qW 8 rfl rfl g26 ?_
    refine qW 9 rfl rfl g26 ?_
    refine qW 10 rfl rfl g26 ?_
    refine qW 11 rfl rfl g26 ?_
    refine qW 12 rfl rfl g26 ?_
    refine qW 13 rfl rfl g26 ?_
    refine qW 14 rfl rfl g26 ?_
    refine qW 15 rfl rfl g26 ?_
    refine qU 16 rfl rfl (fun _ => y_pickf (vbool rfl g26)) ?_
    refine qt (by kernel_rfl) ?_
    exact ⟨false, ⟨rfl, e0, e1, e2, e3, e8, e9, trivial⟩, h⟩
 ·refine wpE_exit ?_
  exact body_n () rfl rs_nil rfl h

set_option maxHeartbeats 4000000 in
theorem slices_swapRangeCmpFunc_api_Xattr.lift {a0 : Sl} {a1 : Int} {a2 : Int} {a3 : Int} {a4 : Value} {a4_f : S_api_Xattr → S_api_Xattr → (Int → Hp → Prop) → Hp → Prop} (a4_i : ∀ x0 x1 Q h, a4_f x0 x1 Q h → CallsV Try.prog a4 [S_api_Xattr.enc x0, S_api_Xattr.enc x1] h (Rt (Value.int .i64) Q)) {Q : Unit → Hp → Prop} {hp : Hp} (h : slices_swapRangeCmpFunc_api_Xattr a0 a1 a2 a3 a4_f Q hp) : CallsH Try.prog 94 #[Sl.enc a0, .int .i64 a1, .int .i64 a2, .int .i64 a3, a4] hp (Rt (fun _ : Unit => .tuple #[]) Q) := by
 unfold slices_swapRangeCmpFunc_api_Xattr at h
 refine calls_of 38 Try.func94 rfl rfl ?_
 refine qs ?_
 refine qa ?_
 refine qn ?_
 refine wpE_block ?_
 obtain ⟨I4, m0, h, hI4⟩ := h
 refine wpE_loop (fun m ρ hp => ∃ u1 : Int, (ρ 10 = .int .i64 u1 ∧ ρ 0 = Sl.enc a0 ∧ ρ 1 = .int .i64 a1 ∧ ρ 2 = .int .i64 a2 ∧ ρ 3 = .int .i64 a3 ∧ True) ∧ I4 m u1 hp) (m := m0) ⟨0, ⟨rfl, rfl, rfl, rfl, rfl, trivial⟩, h⟩ ?_
 rintro m ρ hp ⟨u1, ⟨e10, e0, e1, e2, e3, _⟩, h⟩
 replace h := hI4 m u1 hp h
 refine qe ?_
 refine qs ?_
 iterate 2 refine qm ?_
 refine qy rfl (y_bin e10 e3 (bin_lss _ _ _)) ?_
 refine qn ?_
 refine qc rfl h (fun h => ?_) fun h => ?_
 ·refine wpE_skip ?_
  refine qb ?_
  refine wpE_draw mixed rfl ?_
  refine qU 0 rfl rfl (fun _ => y_mv) ?_
  refine qU 1 rfl rfl (fun _ => y_mv) ?_
  refine qU 2 rfl rfl (fun _ => y_mv) ?_
  refine qU 3 rfl rfl (fun _ => y_bin e1 e10 (bin_add _ _ _)) ?_
  refine qU 4 rfl rfl (fun _ => y_mv) ?_
  refine qU 5 rfl rfl (fun _ => y_mv) ?_
  refine qU 6 rfl rfl (fun _ => y_mv) ?_
  refine qU 7 rfl rfl (fun _ => y_bin e2 e10 (bin_add _ _ _)) ?_
  refine qU 8 rfl rfl (fun _ => y_mv) ?_
  refine qU 9 rfl rfl (fun _ => y_mv) ?_
  refine qU 10 rfl rfl (fun _ => y_mv) ?_
  refine qU 11 rfl rfl (fun _ => y_bin e2 e10 (bin_add _ _ _)) ?_
  obtain ⟨p50, q6, q60, q61, h⟩ := h
  generalize q69 : p50.add (_ * _) = p5 at h
  refine qU 12 rfl rfl (fun _ => ycast_p (y_ix Try.underlying53 ts62 e0 rfl q6 q60 q61) q69) ?_
  obtain ⟨v7, c8, h⟩ := h
  refine qT 13 21 (fun h => Row h p5 (S_api_Xattr.cells v7)) rfl rfl c8 (fun _ c => y_lda ts62 rfl rfl c) ?_
  refine qU 14 rfl rfl (fun _ => y_mv) ?_
  refine qU 15 rfl rfl (fun _ => y_mv) ?_
  refine qU 16 rfl rfl (fun _ => y_mv) ?_
  refine qU 17 rfl rfl (fun _ => y_bin e1 e10 (bin_add _ _ _)) ?_
  obtain ⟨p90, q10, q100, q101, h⟩ := h
  generalize q109 : p90.add (_ * _) = p9 at h
  refine qU 18 rfl rfl (fun _ => ycast_p (y_ix Try.underlying53 ts62 e0 rfl q10 q100 q101) q109) ?_
  obtain ⟨v11, c12, h⟩ := h
  refine qT 19 21 (fun h => Row h p9 (S_api_Xattr.cells v11)) rfl rfl c12 (fun _ c => y_lda ts62 rfl rfl c) ?_
  obtain ⟨p130, q14, q140, q141, h⟩ := h
  generalize q149 : p130.add (_ * _) = p13 at h
  refine qU 20 rfl rfl (fun _ => ycast_p (y_ix Try.underlying53 ts62 e0 rfl q14 q140 q141) q149) ?_
  refine wpA_loud (rs := [21]) (by kernel_rfl) rfl ?_
  refine mcons (step_of rfl ?_) mnil
  refine wpL_sta ts62 rfl rfl rfl rfl h ?_
  generalize setCells _ _ _ _ = hp
  intro h
  refine qn ?_
  refine ⟨hs_dead rfl (hs_dead rfl hs_nil), ?_⟩
  obtain ⟨p160, q17, q170, q171, h⟩ := h
  generalize q179 : p160.add (_ * _) = p16 at h
  refine qU 22 rfl rfl (fun _ => ycast_p (y_ix Try.underlying53 ts62 e0 rfl q17 q170 q171) q179) ?_
  refine wpA_loud (rs := [23]) (by kernel_rfl) rfl ?_
  refine mcons (step_of rfl ?_) mnil
  refine wpL_sta ts62 rfl rfl rfl rfl h ?_
  generalize setCells _ _ _ _ = hp
  intro h
  refine qn ?_
  refine ⟨hs_dead rfl (hs_dead rfl hs_nil), ?_⟩
  refine qt (by kernel_rfl) ?_
  refine qr ?_
  refine qm ?_
  refine qy rfl (y_bin e10 rfl (bin_add _ _ _)) ?_
  refine qa ?_
  refine qn ?_
  obtain ⟨m, hm, h⟩ := h
  exact ⟨m, hm, (IntKind.wrap .i64 (u1 + (1 : Int))), ⟨rfl, e0, e1, e2, e3, trivial⟩, h⟩
 ·refine wpE_exit ?_
  exact body_n () rfl rs_nil rfl h

set_option maxHeartbeats 4000000 in
theorem slices_rotateCmpFunc_api_Xattr.lift {a0 : Sl} {a1 : Int} {a2 : Int} {a3 : Int} {a4 : Value} {a4_f : S_api_Xattr → S_api_Xattr → (Int → Hp → Prop) → Hp → Prop} (a4_i : ∀ x0 x1 Q h, a4_f x0 x1 Q h → CallsV Try.prog a4 [S_api_Xattr.enc x0, S_api_Xattr.enc x1] h (Rt (Value.int .i64) Q)) {Q : Unit → Hp → Prop} {hp : Hp} (h : slices_rotateCmpFunc_api_Xattr a0 a1 a2 a3 a4_f Q hp) : CallsH Try.prog 92 #[Sl.enc a0, .int .i64 a1, .int .i64 a2, .int .i64 a3, a4] hp (Rt (fun _ : Unit => .tuple #[]) Q) := by
 unfold slices_rotateCmpFunc_api_Xattr at h
 refine calls_of 58 Try.func92 rfl rfl ?_
 refine qs ?_
 iterate 2 refine qm ?_
 refine qy rfl (y_bin rfl rfl (bin_sub _ _ _)) ?_
 refine qa ?_
 refine qn ?_
 refine qs ?_
 iterate 2 refine qm ?_
 refine qy rfl (y_bin rfl rfl (bin_sub _ _ _)) ?_
 refine qa ?_
 refine qn ?_
 refine qb ?_
 obtain ⟨I4, m0, h, hI4⟩ := h
 refine wpE_loop (fun m ρ hp => ∃ u1 : Int × Int, (ρ 10 = .int .i64 u1.1 ∧ ρ 11 = .int .i64 u1.2 ∧ ρ 0 = Sl.enc a0 ∧ ρ 2 = .int .i64 a2 ∧ ρ 4 = a4 ∧ True) ∧ I4 m u1 hp) (m := m0) ⟨(IntKind.wrap .i64 (a2 - a1), IntKind.wrap .i64 (a3 - a2)), ⟨rfl, rfl, rfl, rfl, rfl, trivial⟩, h⟩ ?_
 rintro m ρ hp ⟨u1, ⟨e10, e11, e0, e2, e4, _⟩, h⟩
 replace h := hI4 m u1 hp h
 refine qe ?_
 refine qs ?_
 iterate 2 refine qm ?_
 refine qy rfl (y_bin e10 e11 (bin_neq _ _ _)) ?_
 refine qn ?_
 refine qc rfl h (fun h => ?_) fun h => ?_
 ·refine wpE_skip ?_
  refine wpE_block ?_
  refine qs ?_
  iterate 2 refine qm ?_
  refine qy rfl (y_bin e10 e11 (bin_gtr _ _ _)) ?_
  refine qn ?_
  refine qc rfl h (fun h => ?_) fun h => ?_
  ·refine qs ?_
   iterate 3 refine qm ?_
   refine qy rfl (y_bin e2 e10 (bin_sub _ _ _)) ?_
   iterate 3 refine qm ?_
   refine wpL_call (vs := [Sl.enc a0, .int .i64 (IntKind.wrap .i64 (a2 - u1.1)), .int .i64 a2, .int .i64 u1.2, a4]) tc94 (lcons e0 (lcons rfl (lcons e2 (lcons e11 (lcons e4 lnil))))) (slices_swapRangeCmpFunc_api_Xattr.lift a4_i h) rfl ?_
   intro r5 hp h
   refine qn ?_
   refine qr ?_
   iterate 2 refine qm ?_
   refine qy rfl (y_bin e10 e11 (bin_sub _ _ _)) ?_
   refine qa ?_
   refine qn ?_
   obtain ⟨m, hm, h⟩ := h
   exact ⟨m, hm, (IntKind.wrap .i64 (u1.1 - u1.2), u1.2), ⟨rfl, e11, e0, e2, e4, trivial⟩, h⟩
  ·refine qs ?_
   iterate 3 refine qm ?_
   refine qy rfl (y_bin e2 e10 (bin_sub _ _ _)) ?_
   iterate 2 refine qm ?_
   refine qy rfl (y_bin e2 e11 (bin_add _ _ _)) ?_
   refine qm ?_
   refine qy rfl (y_bin rfl e10 (bin_sub _ _ _)) ?_
   iterate 2 refine qm ?_
   refine wpL_call (vs := [Sl.enc a0, .int .i64 (IntKind.wrap .i64 (a2 - u1.1)), .int .i64 (IntKind.wrap .i64 ((IntKind.wrap .i64 (a2 + u1.2)) - u1.1)), .int .i64 u1.1, a4]) tc94 (lcons e0 (lcons rfl (lcons rfl (lcons e10 (lcons e4 lnil))))) (slices_swapRangeCmpFunc_api_Xattr.lift a4_i h) rfl ?_
   intro r7 hp h
   refine qn ?_
   refine qr ?_
   iterate 2 refine qm ?_
   refine qy rfl (y_bin e11 e10 (bin_sub _ _ _)) ?_
   refine qa ?_
   refine qn ?_
   obtain ⟨m, hm, h⟩ := h
   exact ⟨m, hm, (u1.1, IntKind.wrap .i64 (u1.2 - u1.1)), ⟨e10, rfl, e0, e2, e4, trivial⟩, h⟩
 ·refine wpE_exit ?_
  refine qr ?_
  iterate 3 refine qm ?_
  refine qy rfl (y_bin e2 e10 (bin_sub _ _ _)) ?_
  iterate 3 refine qm ?_
  refine wpL_call (vs := [Sl.enc a0, .int .i64 (IntKind.wrap .i64 (a2 - u1.1)), .int .i64 a2, .int .i64 u1.1, a4]) tc94 (lcons e0 (lcons rfl (lcons e2 (lcons e10 (lcons e4 lnil))))) (slices_swapRangeCmpFunc_api_Xattr.lift a4_i h) rfl ?_
  intro r9 hp h
  refine qn ?_
  exact body_n () rfl rs_nil rfl h

set_option maxHeartbeats 4000000 in
theorem slices_symMergeCmpFunc_api_Xattr.lift : ∀ (k : Nat) {a0 : Sl} {a1 : Int} {a2 : Int} {a3 : Int} {a4 : Value} {a4_f : S_api_Xattr → S_api_Xattr → (Int → Hp → Prop) → Hp → Prop} (a4_i : ∀ x0 x1 Q h, a4_f x0 x1 Q h → CallsV Try.prog a4 [S_api_Xattr.enc x0, S_api_Xattr.enc x1] h (Rt (Value.int .i64) Q)) {Q : Unit → Hp → Prop} {hp : Hp} (_ : slices_symMergeCmpFunc_api_Xattr k a0 a1 a2 a3 a4_f Q hp), CallsH Try.prog 88 #[Sl.enc a0, .int .i64 a1, .int .i64 a2, .int .i64 a3, a4] hp (Rt (fun _ : Unit => .tuple #[]) Q) := by
 intro k
 induction k with
 | zero =>
  intros
  rename_i h
  exact (h : False).elim
 | succ k ih_slices_symMergeCmpFunc_api_Xattr =>
  intro a0 a1 a2 a3 a4 a4_f a4_i Q hp h
  unfold slices_symMergeCmpFunc_api_Xattr at h
  refine calls_of 220 Try.func88 rfl rfl ?_
  refine qe ?_
  refine qs ?_
  iterate 2 refine qm ?_
  refine qy rfl (y_bin rfl rfl (bin_sub _ _ _)) ?_
  refine qy rfl (y_bin rfl rfl (bin_eql _ _ _)) ?_
  refine qn ?_
  refine qc rfl h (fun h => ?_) fun h => ?_
  ·refine qs ?_
   refine qm ?_
   refine qa ?_
   refine qn ?_
   refine qs ?_
   refine qm ?_
   refine qa ?_
   refine qn ?_
   refine qb ?_
   obtain ⟨I4, m0, h, hI4⟩ := h
   refine wpE_loop (fun m ρ hp => ∃ u1 : Int × Int, (ρ 10 = .int .i64 u1.1 ∧ ρ 11 = .int .i64 u1.2 ∧ ρ 0 = Sl.enc a0 ∧ ρ 1 = .int .i64 a1 ∧ ρ 4 = a4 ∧ True) ∧ I4 m u1 hp) (m := m0) ⟨(a2, a3), ⟨rfl, rfl, rfl, rfl, rfl, trivial⟩, h⟩ ?_
   rintro m ρ hp ⟨u1, ⟨e10, e11, e0, e1, e4, _⟩, h⟩
   replace h := hI4 m u1 hp h
   refine qe ?_
   refine qs ?_
   iterate 2 refine qm ?_
   refine qy rfl (y_bin e10 e11 (bin_lss _ _ _)) ?_
   refine qn ?_
   refine qc rfl h (fun h => ?_) fun h => ?_
   ·refine wpE_skip ?_
    refine wpE_block ?_
    refine qs ?_
    iterate 2 refine qm ?_
    refine qy rfl (y_bin e10 e11 (bin_add _ _ _)) ?_
    refine qy rfl (y_cvi Try.underlying3 Try.underlying36 rfl) ?_
    refine qy rfl (y_bin rfl rfl (bin_shr _ _ _ (by decide))) ?_
    refine qy rfl (y_cvi Try.underlying36 Try.underlying3 rfl) ?_
    refine qa ?_
    refine qn ?_
    refine qe ?_
    refine wpE_draw mixed rfl ?_
    refine qU 0 rfl rfl (fun _ => y_mv) ?_
    refine qU 1 rfl rfl (fun _ => y_mv) ?_
    refine qU 2 rfl rfl (fun _ => y_mv) ?_
    obtain ⟨p50, q6, q60, q61, h⟩ := h
    generalize q69 : p50.add (_ * _) = p5 at h
    refine qU 3 rfl rfl (fun _ => ycast_p (y_ix Try.underlying53 ts62 e0 rfl q6 q60 q61) q69) ?_
    obtain ⟨v7, c8, h⟩ := h
    refine qT 4 9 (fun h => Row h p5 (S_api_Xattr.cells v7)) rfl rfl c8 (fun _ c => y_lda ts62 rfl rfl c) ?_
    refine qU 5 rfl rfl (fun _ => y_mv) ?_
    refine qU 6 rfl rfl (fun _ => y_mv) ?_
    obtain ⟨p90, q10, q100, q101, h⟩ := h
    generalize q109 : p90.add (_ * _) = p9 at h
    refine qU 7 rfl rfl (fun _ => ycast_p (y_ix Try.underlying53 ts62 e0 e1 q10 q100 q101) q109) ?_
    obtain ⟨v11, c12, h⟩ := h
    refine qT 8 9 (fun h => Row h p9 (S_api_Xattr.cells v11)) rfl rfl c12 (fun _ c => y_lda ts62 rfl rfl c) ?_
    refine wpA_loud (rs := [9]) (by kernel_rfl) rfl ?_
    refine mcons (step_of rfl ?_) mnil
    refine wpL_callv e4 (lcons rfl (lcons rfl lnil)) (a4_i _ _ _ _ h) rfl ?_
    intro r13 hp h
    refine qn ?_
    refine ⟨hs_dead rfl (hs_dead rfl hs_nil), ?_⟩
    refine qU 10 rfl rfl (fun _ => y_bin rfl rfl (bin_lss _ _ _)) ?_
    refine qt (by kernel_rfl) ?_
    refine qc rfl h (fun h => ?_) fun h => ?_
    ·refine qr ?_
     refine qm ?_
     refine qy rfl (y_bin rfl rfl (bin_add _ _ _)) ?_
     refine qa ?_
     refine qn ?_
     obtain ⟨m, hm, h⟩ := h
     exact ⟨m, hm, (IntKind.wrap .i64 ((IntKind.wrap .i64 (iShr .u64 (IntKind.wrap .u64 (IntKind.wrap .i64 (u1.1 + u1.2))) (1 : Int))) + (1 : Int)), u1.2), ⟨rfl, e11, e0, e1, e4, trivial⟩, h⟩
    ·refine qr ?_
     refine qm ?_
     refine qa ?_
     refine qn ?_
     obtain ⟨m, hm, h⟩ := h
     exact ⟨m, hm, (u1.1, IntKind.wrap .i64 (iShr .u64 (IntKind.wrap .u64 (IntKind.wrap .i64 (u1.1 + u1.2))) (1 : Int))), ⟨e10, rfl, e0, e1, e4, trivial⟩, h⟩
   ·refine wpE_exit ?_
    refine qe ?_
    refine qs ?_
    refine qm ?_
    refine qa ?_
    refine qn ?_
    refine wpE_block ?_
    obtain ⟨I18, m0, h, hI18⟩ := h
    refine wpE_loop (fun m ρ hp => ∃ u15 : Int, (ρ 13 = .int .i64 u15 ∧ ρ 0 = Sl.enc a0 ∧ ρ 10 = .int .i64 u1.1 ∧ True) ∧ I18 m u15 hp) (m := m0) ⟨a1, ⟨e1, e0, e10, trivial⟩, h⟩ ?_
    rintro m ρ hp ⟨u15, ⟨e13, e0, e10, _⟩, h⟩
    replace h := hI18 m u15 hp h
    refine qe ?_
    refine qs ?_
    iterate 2 refine qm ?_
    refine qy rfl (y_bin e10 rfl (bin_sub _ _ _)) ?_
    refine qy rfl (y_bin e13 rfl (bin_lss _ _ _)) ?_
    refine qn ?_
    refine qc rfl h (fun h => ?_) fun h => ?_
    ·refine wpE_skip ?_
     refine qb ?_
     refine wpE_draw mixed rfl ?_
     refine qU 0 rfl rfl (fun _ => y_mv) ?_
     refine qU 1 rfl rfl (fun _ => y_mv) ?_
     refine qU 2 rfl rfl (fun _ => y_mv) ?_
     refine qU 3 rfl rfl (fun _ => y_mv) ?_
     refine qU 4 rfl rfl (fun _ => y_bin e13 rfl (bin_add _ _ _)) ?_
     refine qU 5 rfl rfl (fun _ => y_mv) ?_
     refine qU 6 rfl rfl (fun _ => y_mv) ?_
     refine qU 7 rfl rfl (fun _ => y_bin e13 rfl (bin_add _ _ _)) ?_
     obtain ⟨p190, q20, q200, q201, h⟩ := h
     generalize q209 : p190.add (_ * _) = p19 at h
     refine qU 8 rfl rfl (fun _ => ycast_p (y_ix Try.underlying53 ts62 e0 rfl q20 q200 q201) q209) ?_
     obtain ⟨v21, c22, h⟩ := h
     refine qT 9 15 (fun h => Row h p19 (S_api_Xattr.cells v21)) rfl rfl c22 (fun _ c => y_lda ts62 rfl rfl c) ?_
     refine qU 10 rfl rfl (fun _ => y_mv) ?_
     refine qU 11 rfl rfl (fun _ => y_mv) ?_
     obtain ⟨p230, q24, q240, q241, h⟩ := h
     generalize q249 : p230.add (_ * _) = p23 at h
     refine qU 12 rfl rfl (fun _ => ycast_p (y_ix Try.underlying53 ts62 e0 e13 q24 q240 q241) q249) ?_
     obtain ⟨v25, c26, h⟩ := h
     refine qT 13 15 (fun h => Row h p23 (S_api_Xattr.cells v25)) rfl rfl c26 (fun _ c => y_lda ts62 rfl rfl c) ?_
     obtain ⟨p270, q28, q280, q281, h⟩ := h
     generalize q289 : p270.add (_ * _) = p27 at h
     refine qU 14 rfl rfl (fun _ => ycast_p (y_ix Try.underlying53 ts62 e0 e13 q28 q280 q281) q289) ?_
     refine wpA_loud (rs := [15]) (by kernel_rfl) rfl ?_
     refine mcons (step_of rfl ?_) mnil
     refine wpL_sta ts62 rfl rfl rfl rfl h ?_
     generalize setCells _ _ _ _ = hp
     intro h
     refine qn ?_
     refine ⟨hs_dead rfl (hs_dead rfl hs_nil), ?_⟩
     obtain ⟨p300, q31, q310, q311, h⟩ := h
     generalize q319 : p300.add (_ * _) = p30 at h
     refine qU 16 rfl rfl (fun _ => ycast_p (y_ix Try.underlying53 ts62 e0 rfl q31 q310 q311) q319) ?_
     refine wpA_loud (rs := [17]) (by kernel_rfl) rfl ?_
     refine mcons (step_of rfl ?_) mnil
     refine wpL_sta ts62 rfl rfl rfl rfl h ?_
     generalize setCells _ _ _ _ = hp
     intro h
     refine qn ?_
     refine ⟨hs_dead rfl (hs_dead rfl hs_nil), ?_⟩
     refine qt (by kernel_rfl) ?_
     refine qr ?_
     refine qm ?_
     refine qy rfl (y_bin e13 rfl (bin_add _ _ _)) ?_
     refine qa ?_
     refine qn ?_
     obtain ⟨m, hm, h⟩ := h
     exact ⟨m, hm, (IntKind.wrap .i64 (u15 + (1 : Int))), ⟨rfl, e0, e10, trivial⟩, h⟩
    ·refine wpE_exit ?_
     refine wpE_ret ?_
     exact body_r () rfl rs_nil rfl h
  ·refine wpE_skip ?_
   refine qe ?_
   refine qs ?_
   iterate 2 refine qm ?_
   refine qy rfl (y_bin rfl rfl (bin_sub _ _ _)) ?_
   refine qy rfl (y_bin rfl rfl (bin_eql _ _ _)) ?_
   refine qn ?_
   refine qc rfl h (fun h => ?_) fun h => ?_
   ·refine qs ?_
    refine qm ?_
    refine qa ?_
    refine qn ?_
    refine qs ?_
    refine qm ?_
    refine qa ?_
    refine qn ?_
    refine qb ?_
    obtain ⟨I36, m0, h, hI36⟩ := h
    refine wpE_loop (fun m ρ hp => ∃ u33 : Int × Int, (ρ 14 = .int .i64 u33.1 ∧ ρ 15 = .int .i64 u33.2 ∧ ρ 0 = Sl.enc a0 ∧ ρ 2 = .int .i64 a2 ∧ ρ 4 = a4 ∧ True) ∧ I36 m u33 hp) (m := m0) ⟨(a1, a2), ⟨rfl, rfl, rfl, rfl, rfl, trivial⟩, h⟩ ?_
    rintro m ρ hp ⟨u33, ⟨e14, e15, e0, e2, e4, _⟩, h⟩
    replace h := hI36 m u33 hp h
    refine qe ?_
    refine qs ?_
    iterate 2 refine qm ?_
    refine qy rfl (y_bin e14 e15 (bin_lss _ _ _)) ?_
    refine qn ?_
    refine qc rfl h (fun h => ?_) fun h => ?_
    ·refine wpE_skip ?_
     refine wpE_block ?_
     refine qs ?_
     iterate 2 refine qm ?_
     refine qy rfl (y_bin e14 e15 (bin_add _ _ _)) ?_
     refine qy rfl (y_cvi Try.underlying3 Try.underlying36 rfl) ?_
     refine qy rfl (y_bin rfl rfl (bin_shr _ _ _ (by decide))) ?_
     refine qy rfl (y_cvi Try.underlying36 Try.underlying3 rfl) ?_
     refine qa ?_
     refine qn ?_
     refine qe ?_
     refine wpE_draw mixed rfl ?_
     refine qU 0 rfl rfl (fun _ => y_mv) ?_
     refine qU 1 rfl rfl (fun _ => y_mv) ?_
     refine qU 2 rfl rfl (fun _ => y_mv) ?_
     obtain ⟨p370, q38, q380, q381, h⟩ := h
     generalize q389 : p370.add (_ * _) = p37 at h
     refine qU 3 rfl rfl (fun _ => ycast_p (y_ix Try.underlying53 ts62 e0 e2 q38 q380 q381) q389) ?_
     obtain ⟨v39, c40, h⟩ := h
     refine qT 4 9 (fun h => Row h p37 (S_api_Xattr.cells v39)) rfl rfl c40 (fun _ c => y_lda ts62 rfl rfl c) ?_
     refine qU 5 rfl rfl (fun _ => y_mv) ?_
     refine qU 6 rfl rfl (fun _ => y_mv) ?_
     obtain ⟨p410, q42, q420, q421, h⟩ := h
     generalize q429 : p410.add (_ * _) = p41 at h
     refine qU 7 rfl rfl (fun _ => ycast_p (y_ix Try.underlying53 ts62 e0 rfl q42 q420 q421) q429) ?_
     obtain ⟨v43, c44, h⟩ := h
     refine qT 8 9 (fun h => Row h p41 (S_api_Xattr.cells v43)) rfl rfl c44 (fun _ c => y_lda ts62 rfl rfl c) ?_
     refine wpA_loud (rs := [9]) (by kernel_rfl) rfl ?_
     refine mcons (step_of rfl ?_) mnil
     refine wpL_callv e4 (lcons rfl (lcons rfl lnil)) (a4_i _ _ _ _ h) rfl ?_
     intro r45 hp h
     refine qn ?_
     refine ⟨hs_dead rfl (hs_dead rfl hs_nil), ?_⟩
     refine qU 10 rfl rfl (fun _ => y_bin rfl rfl (bin_lss _ _ _)) ?_
     refine qU 11 rfl rfl (fun _ => y_not rfl) ?_
     refine qt (by kernel_rfl) ?_
     refine qc rfl h (fun h => ?_) fun h => ?_
     ·refine qr ?_
      refine qm ?_
      refine qy rfl (y_bin rfl rfl (bin_add _ _ _)) ?_
      refine qa ?_
      refine qn ?_
      obtain ⟨m, hm, h⟩ := h
      exact ⟨m, hm, (IntKind.wrap .i64 ((IntKind.wrap .i64 (iShr .u64 (IntKind.wrap .u64 (IntKind.wrap .i64 (u33.1 + u33.2))) (1 : Int))) + (1 : Int)), u33.2), ⟨rfl, e15, e0, e2, e4, trivial⟩, h⟩
     ·refine qr ?_
      refine qm ?_
      refine qa ?_
      refine qn ?_
      obtain ⟨m, hm, h⟩ := h
      exact ⟨m, hm, (u33.1, IntKind.wrap .i64 (iShr .u64 (IntKind.wrap .u64 (IntKind.wrap .i64 (u33.1 + u33.2))) (1 : Int))), ⟨e14, rfl, e0, e2, e4, trivial⟩, h⟩
    ·refine wpE_exit ?_
     refine qe ?_
     refine qs ?_
     refine qm ?_
     refine qa ?_
     refine qn ?_
     refine wpE_block ?_
     obtain ⟨I50, m0, h, hI50⟩ := h
     refine wpE_loop (fun m ρ hp => ∃ u47 : Int, (ρ 17 = .int .i64 u47 ∧ ρ 0 = Sl.enc a0 ∧ ρ 14 = .int .i64 u33.1 ∧ True) ∧ I50 m u47 hp) (m := m0) ⟨a2, ⟨e2, e0, e14, trivial⟩, h⟩ ?_
     rintro m ρ hp ⟨u47, ⟨e17, e0, e14, _⟩, h⟩
     replace h := hI50 m u47 hp h
     refine qe ?_
     refine qs ?_
     iterate 2 refine qm ?_
     refine qy rfl (y_bin e17 e14 (bin_gtr _ _ _)) ?_
     refine qn ?_
     refine qc rfl h (fun h => ?_) fun h => ?_
     ·refine wpE_skip ?_
      refine qb ?_
      refine wpE_draw mixed rfl ?_
      refine qU 0 rfl rfl (fun _ => y_mv) ?_
      refine qU 1 rfl rfl (fun _ => y_mv) ?_
      refine qU 2 rfl rfl (fun _ => y_mv) ?_
      refine qU 3 rfl rfl (fun _ => y_mv) ?_
      refine qU 4 rfl rfl (fun _ => y_bin e17 rfl (bin_sub _ _ _)) ?_
      refine qU 5 rfl rfl (fun _ => y_mv) ?_
      refine qU 6 rfl rfl (fun _ => y_mv) ?_
      refine qU 7 rfl rfl (fun _ => y_bin e17 rfl (bin_sub _ _ _)) ?_
      obtain ⟨p510, q52, q520, q521, h⟩ := h
      generalize q529 : p510.add (_ * _) = p51 at h
      refine qU 8 rfl rfl (fun _ => ycast_p (y_ix Try.underlying53 ts62 e0 rfl q52 q520 q521) q529) ?_
      obtain ⟨v53, c54, h⟩ := h
      refine qT 9 15 (fun h => Row h p51 (S_api_Xattr.cells v53)) rfl rfl c54 (fun _ c => y_lda ts62 rfl rfl c) ?_
      refine qU 10 rfl rfl (fun _ => y_mv) ?_
      refine qU 11 rfl rfl (fun _ => y_mv) ?_
      obtain ⟨p550, q56, q560, q561, h⟩ := h
      generalize q569 : p550.add (_ * _) = p55 at h
      refine qU 12 rfl rfl (fun _ => ycast_p (y_ix Try.underlying53 ts62 e0 e17 q56 q560 q561) q569) ?_
      obtain ⟨v57, c58, h⟩ := h
      refine qT 13 15 (fun h => Row h p55 (S_api_Xattr.cells v57)) rfl rfl c58 (fun _ c => y_lda ts62 rfl rfl c) ?_
      obtain ⟨p590, q60, q600, q601, h⟩ := h
      generalize q609 : p590.add (_ * _) = p59 at h
      refine qU 14 rfl rfl (fun _ => ycast_p (y_ix Try.underlying53 ts62 e0 e17 q60 q600 q601) q609) ?_
      refine wpA_loud (rs := [15]) (by kernel_rfl) rfl ?_
      refine mcons (step_of rfl ?_) mnil
      refine wpL_sta ts62 rfl rfl rfl rfl h ?_
      generalize setCells _ _ _ _ = hp
      intro h
      refine qn ?_
      refine ⟨hs_dead rfl (hs_dead rfl hs_nil), ?_⟩
      obtain ⟨p620, q63, q630, q631, h⟩ := h
      generalize q639 : p620.add (_ * _) = p62 at h
      refine qU 16 rfl rfl (fun _ => ycast_p (y_ix Try.underlying53 ts62 e0 rfl q63 q630 q631) q639) ?_
      refine wpA_loud (rs := [17]) (by kernel_rfl) rfl ?_
      refine mcons (step_of rfl ?_) mnil
      refine wpL_sta ts62 rfl rfl rfl rfl h ?_
      generalize setCells _ _ _ _ = hp
      intro h
      refine qn ?_
      refine ⟨hs_dead rfl (hs_dead rfl hs_nil), ?_⟩
      refine qt (by kernel_rfl) ?_
      refine qr ?_
      refine qm ?_
      refine qy rfl (y_bin e17 rfl (bin_sub _ _ _)) ?_
      refine qa ?_
      refine qn ?_
      obtain ⟨m, hm, h⟩ := h
      exact ⟨m, hm, (IntKind.wrap .i64 (u47 - (1 : Int))), ⟨rfl, e0, e14, trivial⟩, h⟩
     ·refine wpE_exit ?_
      refine wpE_ret ?_
      exact body_r () rfl rs_nil rfl h
   ·refine wpE_skip ?_
    refine qs ?_
    iterate 2 refine qm ?_
    refine qy rfl (y_bin rfl rfl (bin_add _ _ _)) ?_
    refine qy rfl (y_cvi Try.underlying3 Try.underlying36 rfl) ?_
    refine qy rfl (y_bin rfl rfl (bin_shr _ _ _ (by decide))) ?_
    refine qy rfl (y_cvi Try.underlying36 Try.underlying3 rfl) ?_
    refine qa ?_
    refine qn ?_
    refine qs ?_
    iterate 2 refine qm ?_
    refine qy rfl (y_bin rfl rfl (bin_add _ _ _)) ?_
    refine qa ?_
    refine qn ?_
    refine qs ?_
    iterate 2 refine qa ?_
    refine qn ?_
    obtain ⟨K66, jK66, h⟩ := h
    refine wpE_seqJH K66 (fun (x65 : Int × Int) (ρ : Env) (hp : Hp) => ρ 20 = .int .i64 x65.1 ∧ ρ 21 = .int .i64 x65.2 ∧ ρ 0 = Sl.enc a0 ∧ ρ 1 = .int .i64 a1 ∧ ρ 2 = .int .i64 a2 ∧ ρ 3 = .int .i64 a3 ∧ ρ 4 = a4 ∧ ρ 18 = .int .i64 (IntKind.wrap .i64 (iShr .u64 (IntKind.wrap .u64 (IntKind.wrap .i64 (a1 + a3))) (1 : Int))) ∧ ρ 19 = .int .i64 (IntKind.wrap .i64 ((IntKind.wrap .i64 (iShr .u64 (IntKind.wrap .u64 (IntKind.wrap .i64 (a1 + a3))) (1 : Int))) + a2)) ∧ True) (fun ρ x65 hp f h => ?_) ?_
    ·obtain ⟨e20, e21, e0, e1, e2, e3, e4, e18, e19, _⟩ := f
     replace h := jK66 x65 hp h
     refine qs ?_
     refine qm ?_
     refine qy rfl (y_bin e19 rfl (bin_sub _ _ _)) ?_
     refine qa ?_
     refine qn ?_
     refine qb ?_
     obtain ⟨I71, m0, h, hI71⟩ := h
     refine wpE_loop (fun m ρ hp => ∃ u68 : Int × Int, (ρ 20 = .int .i64 u68.1 ∧ ρ 21 = .int .i64 u68.2 ∧ ρ 0 = Sl.enc a0 ∧ ρ 1 = .int .i64 a1 ∧ ρ 2 = .int .i64 a2 ∧ ρ 3 = .int .i64 a3 ∧ ρ 4 = a4 ∧ ρ 18 = .int .i64 (IntKind.wrap .i64 (iShr .u64 (IntKind.wrap .u64 (IntKind.wrap .i64 (a1 + a3))) (1 : Int))) ∧ ρ 19 = .int .i64 (IntKind.wrap .i64 ((IntKind.wrap .i64 (iShr .u64 (IntKind.wrap .u64 (IntKind.wrap .i64 (a1 + a3))) (1 : Int))) + a2)) ∧ ρ 22 = .int .i64 (IntKind.wrap .i64 ((IntKind.wrap .i64 ((IntKind.wrap .i64 (iShr .u64 (IntKind.wrap .u64 (IntKind.wrap .i64 (a1 + a3))) (1 : Int))) + a2)) - (1 : Int))) ∧ True) ∧ I71 m u68 hp) (m := m0) ⟨(x65.1, x65.2), ⟨e20, e21, e0, e1, e2, e3, e4, e18, e19, rfl, trivial⟩, h⟩ ?_
     rintro m ρ hp ⟨u68, ⟨e20, e21, e0, e1, e2, e3, e4, e18, e19, e22, _⟩, h⟩
     replace h := hI71 m u68 hp h
     refine qe ?_
     refine qs ?_
     iterate 2 refine qm ?_
     refine qy rfl (y_bin e20 e21 (bin_lss _ _ _)) ?_
     refine qn ?_
     refine qc rfl h (fun h => ?_) fun h => ?_
     ·refine wpE_skip ?_
      refine wpE_block ?_
      refine qs ?_
      iterate 2 refine qm ?_
      refine qy rfl (y_bin e20 e21 (bin_add _ _ _)) ?_
      refine qy rfl (y_cvi Try.underlying3 Try.underlying36 rfl) ?_
      refine qy rfl (y_bin rfl rfl (bin_shr _ _ _ (by decide))) ?_
      refine qy rfl (y_cvi Try.underlying36 Try.underlying3 rfl) ?_
      refine qa ?_
      refine qn ?_
      refine qe ?_
      refine wpE_draw mixed rfl ?_
      refine qU 0 rfl rfl (fun _ => y_mv) ?_
      refine qU 1 rfl rfl (fun _ => y_mv) ?_
      refine qU 2 rfl rfl (fun _ => y_mv) ?_
      refine qU 3 rfl rfl (fun _ => y_mv) ?_
      refine qU 4 rfl rfl (fun _ => y_bin e22 rfl (bin_sub _ _ _)) ?_
      obtain ⟨p720, q73, q730, q731, h⟩ := h
      generalize q739 : p720.add (_ * _) = p72 at h
      refine qU 5 rfl rfl (fun _ => ycast_p (y_ix Try.underlying53 ts62 e0 rfl q73 q730 q731) q739) ?_
      obtain ⟨v74, c75, h⟩ := h
      refine qT 6 11 (fun h => Row h p72 (S_api_Xattr.cells v74)) rfl rfl c75 (fun _ c => y_lda ts62 rfl rfl c) ?_
      refine qU 7 rfl rfl (fun _ => y_mv) ?_
      refine qU 8 rfl rfl (fun _ => y_mv) ?_
      obtain ⟨p760, q77, q770, q771, h⟩ := h
      generalize q779 : p760.add (_ * _) = p76 at h
      refine qU 9 rfl rfl (fun _ => ycast_p (y_ix Try.underlying53 ts62 e0 rfl q77 q770 q771) q779) ?_
      obtain ⟨v78, c79, h⟩ := h
      refine qT 10 11 (fun h => Row h p76 (S_api_Xattr.cells v78)) rfl rfl c79 (fun _ c => y_lda ts62 rfl rfl c) ?_
      refine wpA_loud (rs := [11]) (by kernel_rfl) rfl ?_
      refine mcons (step_of rfl ?_) mnil
      refine wpL_callv e4 (lcons rfl (lcons rfl lnil)) (a4_i _ _ _ _ h) rfl ?_
      intro r80 hp h
      refine qn ?_
      refine ⟨hs_dead rfl (hs_dead rfl hs_nil), ?_⟩
      refine qU 12 rfl rfl (fun _ => y_bin rfl rfl (bin_lss _ _ _)) ?_
      refine qU 13 rfl rfl (fun _ => y_not rfl) ?_
      refine qt (by kernel_rfl) ?_
      refine qc rfl h (fun h => ?_) fun h => ?_
      ·refine qr ?_
       refine qm ?_
       refine qy rfl (y_bin rfl rfl (bin_add _ _ _)) ?_
       refine qa ?_
       refine qn ?_
       obtain ⟨m, hm, h⟩ := h
       exact ⟨m, hm, (IntKind.wrap .i64 ((IntKind.wrap .i64 (iShr .u64 (IntKind.wrap .u64 (IntKind.wrap .i64 (u68.1 + u68.2))) (1 : Int))) + (1 : Int)), u68.2), ⟨rfl, e21, e0, e1, e2, e3, e4, e18, e19, e22, trivial⟩, h⟩
      ·refine qr ?_
       refine qm ?_
       refine qa ?_
       refine qn ?_
       obtain ⟨m, hm, h⟩ := h
       exact ⟨m, hm, (u68.1, IntKind.wrap .i64 (iShr .u64 (IntKind.wrap .u64 (IntKind.wrap .i64 (u68.1 + u68.2))) (1 : Int))), ⟨e20, rfl, e0, e1, e2, e3, e4, e18, e19, e22, trivial⟩, h⟩
     ·refine wpE_exit ?_
      refine qs ?_
      iterate 2 refine qm ?_
      refine qy rfl (y_bin e19 e20 (bin_sub _ _ _)) ?_
      refine qa ?_
      refine qn ?_
      obtain ⟨K83, jK83, h⟩ := h
      refine wpE_seqJH K83 (fun (x82 : Unit) (ρ : Env) (hp : Hp) => ρ 0 = Sl.enc a0 ∧ ρ 1 = .int .i64 a1 ∧ ρ 3 = .int .i64 a3 ∧ ρ 4 = a4 ∧ ρ 18 = .int .i64 (IntKind.wrap .i64 (iShr .u64 (IntKind.wrap .u64 (IntKind.wrap .i64 (a1 + a3))) (1 : Int))) ∧ ρ 20 = .int .i64 u68.1 ∧ ρ 24 = .int .i64 (IntKind.wrap .i64 ((IntKind.wrap .i64 ((IntKind.wrap .i64 (iShr .u64 (IntKind.wrap .u64 (IntKind.wrap .i64 (a1 + a3))) (1 : Int))) + a2)) - u68.1)) ∧ True) (fun ρ x82 hp f h => ?_) ?_
      ·obtain ⟨e0, e1, e3, e4, e18, e20, e24, _⟩ := f
       replace h := jK83 x82 hp h
       obtain ⟨K86, jK86, h⟩ := h
       refine wpE_seqJH K86 (fun (x85 : Unit) (ρ : Env) (hp : Hp) => ρ 0 = Sl.enc a0 ∧ ρ 3 = .int .i64 a3 ∧ ρ 4 = a4 ∧ ρ 18 = .int .i64 (IntKind.wrap .i64 (iShr .u64 (IntKind.wrap .u64 (IntKind.wrap .i64 (a1 + a3))) (1 : Int))) ∧ ρ 24 = .int .i64 (IntKind.wrap .i64 ((IntKind.wrap .i64 ((IntKind.wrap .i64 (iShr .u64 (IntKind.wrap .u64 (IntKind.wrap .i64 (a1 + a3))) (1 : Int))) + a2)) - u68.1)) ∧ True) (fun ρ x85 hp f h => ?_) ?_
       ·obtain ⟨e0, e3, e4, e18, e24, _⟩ := f
        replace h := jK86 x85 hp h
        obtain ⟨K89, jK89, h⟩ := h
        refine wpE_seqJH K89 (fun (x88 : Bool) (ρ : Env) (hp : Hp) => ρ 213 = .bool x88 ∧ ρ 0 = Sl.enc a0 ∧ ρ 3 = .int .i64 a3 ∧ ρ 4 = a4 ∧ ρ 18 = .int .i64 (IntKind.wrap .i64 (iShr .u64 (IntKind.wrap .u64 (IntKind.wrap .i64 (a1 + a3))) (1 : Int))) ∧ ρ 24 = .int .i64 (IntKind.wrap .i64 ((IntKind.wrap .i64 ((IntKind.wrap .i64 (iShr .u64 (IntKind.wrap .u64 (IntKind.wrap .i64 (a1 + a3))) (1 : Int))) + a2)) - u68.1)) ∧ True) (fun ρ x88 hp f h => ?_) ?_
        ·obtain ⟨e213, e0, e3, e4, e18, e24, _⟩ := f
         replace h := jK89 x88 hp h
         refine qc e213 h (fun h => ?_) fun h => ?_
         ·refine qr ?_
          iterate 5 refine qm ?_
          refine wpL_call (vs := [Sl.enc a0, .int .i64 (IntKind.wrap .i64 (iShr .u64 (IntKind.wrap .u64 (IntKind.wrap .i64 (a1 + a3))) (1 : Int))), .int .i64 (IntKind.wrap .i64 ((IntKind.wrap .i64 ((IntKind.wrap .i64 (iShr .u64 (IntKind.wrap .u64 (IntKind.wrap .i64 (a1 + a3))) (1 : Int))) + a2)) - u68.1)), .int .i64 a3, a4]) tc88 (lcons e0 (lcons e18 (lcons e24 (lcons e3 (lcons e4 lnil))))) (ih_slices_symMergeCmpFunc_api_Xattr a4_i h) rfl ?_
          intro r91 hp h
          refine qn ?_
          exact body_n () rfl rs_nil rfl h
         ·refine wpE_skip ?_
          exact body_n () rfl rs_nil rfl h
        ·refine qr ?_
         iterate 2 refine qm ?_
         refine qy rfl (y_bin e18 e24 (bin_lss _ _ _)) ?_
         refine qm ?_
         refine wpL_split h (fun g93 h => ?_) (fun g93 h => ?_)
         ·refine qg rfl g93 ?_
          refine qm ?_
          refine qg rfl g93 ?_
          refine qm ?_
          refine qg rfl g93 ?_
          refine qy rfl (y_bin e24 e3 (bin_lss _ _ _)) ?_
          refine qy rfl (y_pickt (vbool rfl g93)) ?_
          refine qn ?_
          exact ⟨(decide ((IntKind.wrap .i64 ((IntKind.wrap .i64 ((IntKind.wrap .i64 (iShr .u64 (IntKind.wrap .u64 (IntKind.wrap .i64 (a1 + a3))) (1 : Int))) + a2)) - u68.1)) < a3)), ⟨rfl, e0, e3, e4, e18, e24, trivial⟩, h⟩
         ·refine qp rfl g93 ?_
          iterate 2 refine qp rfl g93 ?_
          refine qy rfl (y_pickf (vbool rfl g93)) ?_
          refine qn ?_
          exact ⟨false, ⟨rfl, e0, e3, e4, e18, e24, trivial⟩, h⟩
       ·obtain ⟨K95, jK95, h⟩ := h
        refine wpE_seqJH K95 (fun (x94 : Bool) (ρ : Env) (hp : Hp) => ρ 199 = .bool x94 ∧ ρ 0 = Sl.enc a0 ∧ ρ 1 = .int .i64 a1 ∧ ρ 3 = .int .i64 a3 ∧ ρ 4 = a4 ∧ ρ 18 = .int .i64 (IntKind.wrap .i64 (iShr .u64 (IntKind.wrap .u64 (IntKind.wrap .i64 (a1 + a3))) (1 : Int))) ∧ ρ 20 = .int .i64 u68.1 ∧ ρ 24 = .int .i64 (IntKind.wrap .i64 ((IntKind.wrap .i64 ((IntKind.wrap .i64 (iShr .u64 (IntKind.wrap .u64 (IntKind.wrap .i64 (a1 + a3))) (1 : Int))) + a2)) - u68.1)) ∧ True) (fun ρ x94 hp f h => ?_) ?_
        ·obtain ⟨e199, e0, e1, e3, e4, e18, e20, e24, _⟩ := f
         replace h := jK95 x94 hp h
         refine qc e199 h (fun h => ?_) fun h => ?_
         ·refine qr ?_
          iterate 5 refine qm ?_
          refine wpL_call (vs := [Sl.enc a0, .int .i64 a1, .int .i64 u68.1, .int .i64 (IntKind.wrap .i64 (iShr .u64 (IntKind.wrap .u64 (IntKind.wrap .i64 (a1 + a3))) (1 : Int))), a4]) tc88 (lcons e0 (lcons e1 (lcons e20 (lcons e18 (lcons e4 lnil))))) (ih_slices_symMergeCmpFunc_api_Xattr a4_i h) rfl ?_
          intro r97 hp h
          refine qn ?_
          exact ⟨(), ⟨e0, e3, e4, e18, e24, trivial⟩, h⟩
         ·refine wpE_skip ?_
          exact ⟨(), ⟨e0, e3, e4, e18, e24, trivial⟩, h⟩
        ·refine qr ?_
         iterate 2 refine qm ?_
         refine qy rfl (y_bin e1 e20 (bin_lss _ _ _)) ?_
         refine qm ?_
         refine wpL_split h (fun g99 h => ?_) (fun g99 h => ?_)
         ·refine qg rfl g99 ?_
          refine qm ?_
          refine qg rfl g99 ?_
          refine qm ?_
          refine qg rfl g99 ?_
          refine qy rfl (y_bin e20 e18 (bin_lss _ _ _)) ?_
          refine qy rfl (y_pickt (vbool rfl g99)) ?_
          refine qn ?_
          exact ⟨(decide (u68.1 < (IntKind.wrap .i64 (iShr .u64 (IntKind.wrap .u64 (IntKind.wrap .i64 (a1 + a3))) (1 : Int))))), ⟨rfl, e0, e1, e3, e4, e18, e20, e24, trivial⟩, h⟩
         ·refine qp rfl g99 ?_
          iterate 2 refine qp rfl g99 ?_
          refine qy rfl (y_pickf (vbool rfl g99)) ?_
          refine qn ?_
          exact ⟨false, ⟨rfl, e0, e1, e3, e4, e18, e20, e24, trivial⟩, h⟩
      ·obtain ⟨K101, jK101, h⟩ := h
       refine wpE_seqJH K101 (fun (x100 : Bool) (ρ : Env) (hp : Hp) => ρ 185 = .bool x100 ∧ ρ 0 = Sl.enc a0 ∧ ρ 1 = .int .i64 a1 ∧ ρ 2 = .int .i64 a2 ∧ ρ 3 = .int .i64 a3 ∧ ρ 4 = a4 ∧ ρ 18 = .int .i64 (IntKind.wrap .i64 (iShr .u64 (IntKind.wrap .u64 (IntKind.wrap .i64 (a1 + a3))) (1 : Int))) ∧ ρ 20 = .int .i64 u68.1 ∧ ρ 24 = .int .i64 (IntKind.wrap .i64 ((IntKind.wrap .i64 ((IntKind.wrap .i64 (iShr .u64 (IntKind.wrap .u64 (IntKind.wrap .i64 (a1 + a3))) (1 : Int))) + a2)) - u68.1)) ∧ True) (fun ρ x100 hp f h => ?_) ?_
       ·obtain ⟨e185, e0, e1, e2, e3, e4, e18, e20, e24, _⟩ := f
        replace h := jK101 x100 hp h
        refine qc e185 h (fun h => ?_) fun h => ?_
        ·refine qr ?_
         iterate 5 refine qm ?_
         refine wpL_call (vs := [Sl.enc a0, .int .i64 u68.1, .int .i64 a2, .int .i64 (IntKind.wrap .i64 ((IntKind.wrap .i64 ((IntKind.wrap .i64 (iShr .u64 (IntKind.wrap .u64 (IntKind.wrap .i64 (a1 + a3))) (1 : Int))) + a2)) - u68.1)), a4]) tc92 (lcons e0 (lcons e20 (lcons e2 (lcons e24 (lcons e4 lnil))))) (slices_rotateCmpFunc_api_Xattr.lift a4_i h) rfl ?_
         intro r103 hp h
         refine qn ?_
         exact ⟨(), ⟨e0, e1, e3, e4, e18, e20, e24, trivial⟩, h⟩
        ·refine wpE_skip ?_
         exact ⟨(), ⟨e0, e1, e3, e4, e18, e20, e24, trivial⟩, h⟩
       ·refine qr ?_
        iterate 2 refine qm ?_
        refine qy rfl (y_bin e20 e2 (bin_lss _ _ _)) ?_
        refine qm ?_
        refine wpL_split h (fun g105 h => ?_) (fun g105 h => ?_)
        ·refine qg rfl g105 ?_
         refine qm ?_
         refine qg rfl g105 ?_
         refine qm ?_
         refine qg rfl g105 ?_
         refine qy rfl (y_bin e2 rfl (bin_lss _ _ _)) ?_
         refine qy rfl (y_pickt (vbool rfl g105)) ?_
         refine qn ?_
         exact ⟨(decide (a2 < (IntKind.wrap .i64 ((IntKind.wrap .i64 ((IntKind.wrap .i64 (iShr .u64 (IntKind.wrap .u64 (IntKind.wrap .i64 (a1 + a3))) (1 : Int))) + a2)) - u68.1)))), ⟨rfl, e0, e1, e2, e3, e4, e18, e20, rfl, trivial⟩, h⟩
        ·refine qp rfl g105 ?_
         iterate 2 refine qp rfl g105 ?_
         refine qy rfl (y_pickf (vbool rfl g105)) ?_
         refine qn ?_
         exact ⟨false, ⟨rfl, e0, e1, e2, e3, e4, e18, e20, rfl, trivial⟩, h⟩
    ·refine qs ?_
     iterate 2 refine qm ?_
     refine qy rfl (y_bin rfl rfl (bin_gtr _ _ _)) ?_
     refine qn ?_
     refine qc rfl h (fun h => ?_) fun h => ?_
     ·refine qs ?_
      iterate 2 refine qm ?_
      refine qy rfl (y_bin rfl rfl (bin_sub _ _ _)) ?_
      refine qa ?_
      refine qn ?_
      refine qr ?_
      refine qm ?_
      refine qa ?_
      refine qn ?_
      exact ⟨(IntKind.wrap .i64 ((IntKind.wrap .i64 ((IntKind.wrap .i64 (iShr .u64 (IntKind.wrap .u64 (IntKind.wrap .i64 (a1 + a3))) (1 : Int))) + a2)) - a3), IntKind.wrap .i64 (iShr .u64 (IntKind.wrap .u64 (IntKind.wrap .i64 (a1 + a3))) (1 : Int))), ⟨rfl, rfl, rfl, rfl, rfl, rfl, rfl, rfl, rfl, trivial⟩, h⟩
     ·refine qs ?_
      refine qm ?_
      refine qa ?_
      refine qn ?_
      refine qr ?_
      refine qm ?_
      refine qa ?_
      refine qn ?_
      exact ⟨(a1, a2), ⟨rfl, rfl, rfl, rfl, rfl, rfl, rfl, rfl, rfl, trivial⟩, h⟩

set_option maxHeartbeats 4000000 in
theorem slices_stableCmpFunc_api_Xattr.lift {a0 : Sl} {a1 : Int} {a2 : Value} {a2_f : S_api_Xattr → S_api_Xattr → (Int → Hp → Prop) → Hp → Prop} (a2_i : ∀ x0 x1 Q h, a2_f x0 x1 Q h → CallsV Try.prog a2 [S_api_Xattr.enc x0, S_api_Xattr.enc x1] h (Rt (Value.int .i64) Q)) {Q : Unit → Hp → Prop} {hp : Hp} (h : slices_stableCmpFunc_api_Xattr a0 a1 a2_f Q hp) : CallsH Try.prog 82 #[Sl.enc a0, .int .i64 a1, a2] hp (Rt (fun _ : Unit => .tuple #[]) Q) := by
 unfold slices_stableCmpFunc_api_Xattr at h
 refine calls_of 63 Try.func82 rfl rfl ?_
 refine qs ?_
 refine qa ?_
 refine qn ?_
 refine qs ?_
 refine qm ?_
 iterate 2 refine qa ?_
 refine qn ?_
 refine qb ?_
 obtain ⟨I4, m0, h, hI4⟩ := h
 refine wpE_loop (fun m ρ hp => ∃ u1 : Int × Int, (ρ 7 = .int .i64 u1.1 ∧ ρ 8 = .int .i64 u1.2 ∧ ρ 0 = Sl.enc a0 ∧ ρ 1 = .int .i64 a1 ∧ ρ 2 = a2 ∧ ρ 6 = .int .i64 20 ∧ True) ∧ I4 m u1 hp) (m := m0) ⟨(0, 20), ⟨rfl, rfl, rfl, rfl, rfl, rfl, trivial⟩, h⟩ ?_
 rintro m ρ hp ⟨u1, ⟨e7, e8, e0, e1, e2, e6, _⟩, h⟩
 replace h := hI4 m u1 hp h
 refine qe ?_
 refine qs ?_
 iterate 2 refine qm ?_
 refine qy rfl (y_bin e8 e1 (bin_leq _ _ _)) ?_
 refine qn ?_
 refine qc rfl h (fun h => ?_) fun h => ?_
 ·refine wpE_skip ?_
  refine wpE_block ?_
  refine qs ?_
  iterate 4 refine qm ?_
  refine wpL_call (vs := [Sl.enc a0, .int .i64 u1.1, .int .i64 u1.2, a2]) tc87 (lcons e0 (lcons e7 (lcons e8 (lcons e2 lnil)))) (slices_insertionSortCmpFunc_api_Xattr.lift a2_i h) rfl ?_
  intro r5 hp h
  refine qn ?_
  refine qs ?_
  refine qm ?_
  refine qa ?_
  refine qn ?_
  refine qr ?_
  iterate 2 refine qm ?_
  refine qy rfl (y_bin e8 e6 (bin_add _ _ _)) ?_
  refine qa ?_
  refine qn ?_
  obtain ⟨m, hm, h⟩ := h
  exact ⟨m, hm, (u1.2, IntKind.wrap .i64 (u1.2 + (20 : Int))), ⟨e8, rfl, e0, e1, e2, e6, trivial⟩, h⟩
 ·refine wpE_exit ?_
  refine qs ?_
  iterate 4 refine qm ?_
  refine wpL_call (vs := [Sl.enc a0, .int .i64 u1.1, .int .i64 a1, a2]) tc87 (lcons e0 (lcons e7 (lcons e1 (lcons e2 lnil)))) (slices_insertionSortCmpFunc_api_Xattr.lift a2_i h) rfl ?_
  intro r7 hp h
  refine qn ?_
  refine wpE_block ?_
  obtain ⟨I12, m0, h, hI12⟩ := h
  refine wpE_loop (fun m ρ hp => ∃ u9 : Int, (ρ 6 = .int .i64 u9 ∧ ρ 0 = Sl.enc a0 ∧ ρ 1 = .int .i64 a1 ∧ ρ 2 = a2 ∧ True) ∧ I12 m u9 hp) (m := m0) ⟨20, ⟨e6, e0, e1, e2, trivial⟩, h⟩ ?_
  rintro m ρ hp ⟨u9, ⟨e6, e0, e1, e2, _⟩, h⟩
  replace h := hI12 m u9 hp h
  refine qe ?_
  refine qs ?_
  iterate 2 refine qm ?_
  refine qy rfl (y_bin e6 e1 (bin_lss _ _ _)) ?_
  refine qn ?_
  refine qc rfl h (fun h => ?_) fun h => ?_
  ·refine wpE_skip ?_
   refine wpE_block ?_
   refine qs ?_
   refine qm ?_
   refine qy rfl (y_bin rfl e6 (bin_mul _ _ _)) ?_
   iterate 2 refine qa ?_
   refine qn ?_
   refine qb ?_
   obtain ⟨I16, m0, h, hI16⟩ := h
   refine wpE_loop (fun m ρ hp => ∃ u13 : Int × Int, (ρ 7 = .int .i64 u13.1 ∧ ρ 8 = .int .i64 u13.2 ∧ ρ 0 = Sl.enc a0 ∧ ρ 1 = .int .i64 a1 ∧ ρ 2 = a2 ∧ ρ 6 = .int .i64 u9 ∧ True) ∧ I16 m u13 hp) (m := m0) ⟨(0, IntKind.wrap .i64 ((2 : Int) * u9)), ⟨rfl, rfl, e0, e1, e2, e6, trivial⟩, h⟩ ?_
   rintro m ρ hp ⟨u13, ⟨e7, e8, e0, e1, e2, e6, _⟩, h⟩
   replace h := hI16 m u13 hp h
   refine qe ?_
   refine qs ?_
   iterate 2 refine qm ?_
   refine qy rfl (y_bin e8 e1 (bin_leq _ _ _)) ?_
   refine qn ?_
   refine qc rfl h (fun h => ?_) fun h => ?_
   ·refine wpE_skip ?_
    refine wpE_block ?_
    refine qs ?_
    iterate 4 refine qm ?_
    refine qy rfl (y_bin e7 e6 (bin_add _ _ _)) ?_
    iterate 2 refine qm ?_
    obtain ⟨k0, h⟩ := h
    refine wpL_call (vs := [Sl.enc a0, .int .i64 u13.1, .int .i64 (IntKind.wrap .i64 (u13.1 + u9)), .int .i64 u13.2, a2]) tc88 (lcons e0 (lcons e7 (lcons rfl (lcons e8 (lcons e2 lnil))))) (slices_symMergeCmpFunc_api_Xattr.lift k0 a2_i h) rfl ?_
    intro r17 hp h
    refine qn ?_
    refine qs ?_
    refine qm ?_
    refine qa ?_
    refine qn ?_
    refine qr ?_
    iterate 2 refine qm ?_
    refine qy rfl (y_bin rfl e6 (bin_mul _ _ _)) ?_
    refine qy rfl (y_bin e8 rfl (bin_add _ _ _)) ?_
    refine qa ?_
    refine qn ?_
    obtain ⟨m, hm, h⟩ := h
    exact ⟨m, hm, (u13.2, IntKind.wrap .i64 (u13.2 + (IntKind.wrap .i64 ((2 : Int) * u9)))), ⟨e8, rfl, e0, e1, e2, e6, trivial⟩, h⟩
   ·refine wpE_exit ?_
    obtain ⟨K20, jK20, h⟩ := h
    refine wpE_seqJH K20 (fun (x19 : Unit) (ρ : Env) (hp : Hp) => ρ 0 = Sl.enc a0 ∧ ρ 1 = .int .i64 a1 ∧ ρ 2 = a2 ∧ ρ 6 = .int .i64 u9 ∧ True) (fun ρ x19 hp f h => ?_) ?_
    ·obtain ⟨e0, e1, e2, e6, _⟩ := f
     replace h := jK20 x19 hp h
     refine qr ?_
     refine qm ?_
     refine qy rfl (y_bin e6 rfl (bin_mul _ _ _)) ?_
     refine qa ?_
     refine qn ?_
     obtain ⟨m, hm, h⟩ := h
     exact ⟨m, hm, (IntKind.wrap .i64 (u9 * (2 : Int))), ⟨rfl, e0, e1, e2, trivial⟩, h⟩
    ·refine qs ?_
     iterate 2 refine qm ?_
     refine qy rfl (y_bin e7 e6 (bin_add _ _ _)) ?_
     refine qa ?_
     refine qn ?_
     refine qs ?_
     iterate 2 refine qm ?_
     refine qy rfl (y_bin rfl e1 (bin_lss _ _ _)) ?_
     refine qn ?_
     refine qc rfl h (fun h => ?_) fun h => ?_
     ·refine qr ?_
      iterate 5 refine qm ?_
      obtain ⟨k0, h⟩ := h
      refine wpL_call (vs := [Sl.enc a0, .int .i64 u13.1, .int .i64 (IntKind.wrap .i64 (u13.1 + u9)), .int .i64 a1, a2]) tc88 (lcons e0 (lcons e7 (lcons rfl (lcons e1 (lcons e2 lnil))))) (slices_symMergeCmpFunc_api_Xattr.lift k0 a2_i h) rfl ?_
      intro r22 hp h
      refine qn ?_
      exact ⟨(), ⟨e0, e1, e2, e6, trivial⟩, h⟩
     ·refine wpE_skip ?_
      exact ⟨(), ⟨e0, e1, e2, e6, trivial⟩, h⟩
  ·refine wpE_exit ?_
   exact body_n () rfl rs_nil rfl h

set_option maxHeartbeats 4000000 in
theorem slices_SortStableFunc_api_Xattr_api_Xattr.lift {a0 : Sl} {a1 : Value} {a1_f : S_api_Xattr → S_api_Xattr → (Int → Hp → Prop) → Hp → Prop} (a1_i : ∀ x0 x1 Q h, a1_f x0 x1 Q h → CallsV Try.prog a1 [S_api_Xattr.enc x0, S_api_Xattr.enc x1] h (Rt (Value.int .i64) Q)) {Q : Unit → Hp → Prop} {hp : Hp} (h : slices_SortStableFunc_api_Xattr_api_Xattr a0 a1_f Q hp) : CallsH Try.prog 73 #[Sl.enc a0, a1] hp (Rt (fun _ : Unit => .tuple #[]) Q) := by
 unfold slices_SortStableFunc_api_Xattr_api_Xattr at h
 refine calls_of 9 Try.func73 rfl rfl ?_
 refine qr ?_
 iterate 2 refine qm ?_
 refine qy rfl (y_lensl Try.underlying53 (lcons rfl lnil)) ?_
 refine qm ?_
 refine wpL_call (vs := [Sl.enc a0, .int .i64 (a0.len : Int), a1]) tc82 (lcons rfl (lcons rfl (lcons rfl lnil))) (slices_stableCmpFunc_api_Xattr.lift a1_i h) rfl ?_
 intro r1 hp h
 refine qn ?_
 exact body_n () rfl rs_nil rfl h

set_option maxHeartbeats 4000000 in
theorem join_merged_api_Xattr.lift {a0 : Sl} {a1 : Sl} {a2 : Value} {a2_f : S_api_Xattr → S_api_Xattr → (Int → Hp → Prop) → Hp → Prop} (a2_i : ∀ x0 x1 Q h, a2_f x0 x1 Q h → CallsV Try.prog a2 [S_api_Xattr.enc x0, S_api_Xattr.enc x1] h (Rt (Value.int .i64) Q)) {a3 : Value} {a3_f : S_api_Xattr → S_api_Xattr → (S_api_Xattr → Hp → Prop) → Hp → Prop} (a3_i : ∀ x0 x1 Q h, a3_f x0 x1 Q h → CallsV Try.prog a3 [S_api_Xattr.enc x0, S_api_Xattr.enc x1] h (Rt S_api_Xattr.enc Q)) {Q : Sl → Hp → Prop} {hp : Hp} (h : join_merged_api_Xattr a0 a1 a2_f a3_f Q hp) : CallsH Try.prog 58 #[Sl.enc a0, Sl.enc a1, a2, a3] hp (Rt Sl.enc Q) := by
 unfold join_merged_api_Xattr at h
 refine calls_of 60 Try.func58 rfl rfl ?_
 refine qs ?_
 refine qa ?_
 refine qn ?_
 refine qs ?_
 refine qa ?_
 refine qn ?_
 refine qs ?_
 iterate 2 refine qm ?_
 refine wpL_bsl Try.underlying118 ts53 tz53 rfl rfl rfl (pcons rfl (pcons rfl rfl)) rfl h rfl ?_
 intro b1 hp h
 refine wpL_call (vs := [Sl.enc (Sl.mk (some b1) 2 2)]) tc47 (lcons rfl lnil) (slices_Concat_api_Xattr_api_Xattr.lift h) rfl ?_
 intro r3 hp h
 refine qa ?_
 refine qn ?_
 refine qs ?_
 iterate 2 refine qm ?_
 refine wpL_call (vs := [Sl.enc r3, a2]) tc73 (lcons rfl (lcons rfl lnil)) (slices_SortStableFunc_api_Xattr_api_Xattr.lift a2_i h) rfl ?_
 intro r5 hp h
 refine qn ?_
 refine qe ?_
 refine qs ?_
 refine qm ?_
 refine qy rfl (y_lensl Try.underlying53 (lcons rfl lnil)) ?_
 refine qm ?_
 refine qn ?_
 refine wpE_block ?_
 obtain ⟨I10, m0, h, hI10⟩ := h
 refine wpE_loop (fun m ρ hp => ∃ u7 : Sl × Int, (ρ 9 = Sl.enc u7.1 ∧ ρ 23 = .int .i64 u7.2 ∧ ρ 2 = a2 ∧ ρ 3 = a3 ∧ ρ 21 = Sl.enc r3 ∧ ρ 22 = .int .i64 (r3.len : Int) ∧ True) ∧ I10 m u7 hp) (m := m0) ⟨(Sl.nil, 0), ⟨rfl, rfl, rfl, rfl, rfl, rfl, trivial⟩, h⟩ ?_
 rintro m ρ hp ⟨u7, ⟨e9, e23, e2, e3, e21, e22, _⟩, h⟩
 replace h := hI10 m u7 hp h
 refine qs ?_
 refine qy rfl (y_bin e23 e22 (bin_lss _ _ _)) ?_
 refine qn ?_
 refine qe ?_
 refine qc rfl h (fun h => ?_) fun h => ?_
 ·refine wpE_skip ?_
  obtain ⟨K12, jK12, h⟩ := h
  refine wpE_seqJH K12 (fun (x11 : Sl) (ρ : Env) (hp : Hp) => ρ 9 = Sl.enc x11 ∧ ρ 2 = a2 ∧ ρ 3 = a3 ∧ ρ 21 = Sl.enc r3 ∧ ρ 22 = .int .i64 (r3.len : Int) ∧ ρ 23 = .int .i64 u7.2 ∧ True) (fun ρ x11 hp f h => ?_) ?_
  ·obtain ⟨e9, e2, e3, e21, e22, e23, _⟩ := f
   replace h := jK12 x11 hp h
   refine qr ?_
   refine qy rfl (y_bin e23 rfl (bin_add _ _ _)) ?_
   refine qm ?_
   refine qn ?_
   obtain ⟨m, hm, h⟩ := h
   exact ⟨m, hm, (x11, IntKind.wrap .i64 (u7.2 + (1 : Int))), ⟨e9, rfl, e2, e3, e21, e22, trivial⟩, h⟩
  ·refine wpE_block ?_
   refine qs ?_
   obtain ⟨p140, q15, q150, q151, h⟩ := h
   generalize q159 : p140.add (_ * _) = p14 at h
   refine qy rfl (ycast_p (y_ix Try.underlying53 ts62 e21 e23 q15 q150 q151) q159) ?_
   obtain ⟨v16, c17, h⟩ := h
   refine qy rfl (y_lda ts62 rfl rfl c17) ?_
   refine wpL_allocX (zs := (S_api_Xattr.cells (S_api_Xattr.mk [] (S_api_Stamp.mk 0 0) [] false))) tz62 rfl Bx.nil h rfl ?_
   intro b18 hp h bx
   refine wpL_staX (L' := [(b18, (S_api_Xattr.cells v16))]) (i := 0) (off := 0) (cs' := (S_api_Xattr.cells v16)) ts62 rfl rfl rfl rfl bx rfl (by kernel_rfl) h (by kernel_rfl) (by kernel_rfl) ?_
   intro hp h bx
   refine qn ?_
   refine qe ?_
   refine qs ?_
   refine qm ?_
   refine qy rfl (y_lensl Try.underlying53 (lcons e9 lnil)) ?_
   refine qa ?_
   refine qn ?_
   obtain ⟨K22, jK22, h⟩ := h
   refine wpE_seqJH K22 (fun (x21 : Bool) (ρ : Env) (hp : Hp) => ρ 41 = .bool x21 ∧ ρ 2 = a2 ∧ ρ 3 = a3 ∧ ρ 9 = Sl.enc u7.1 ∧ ρ 12 = .pointer (some b18) ∧ ρ 13 = .int .i64 (u7.1.len : Int) ∧ ρ 21 = Sl.enc r3 ∧ ρ 22 = .int .i64 (r3.len : Int) ∧ ρ 23 = .int .i64 u7.2 ∧ Bx hp [(b18, (S_api_Xattr.cells v16))]) (fun ρ x21 hp f h => ?_) ?_
   ·obtain ⟨e41, e2, e3, e9, e12, e13, e21, e22, e23, bx⟩ := f
    replace h := jK22 x21 hp h
    refine qc e41 h (fun h => ?_) fun h => ?_
    ·refine qe ?_
     refine wpE_draw mixed rfl ?_
     refine qU 0 rfl rfl (fun _ => y_mv) ?_
     refine qU 1 rfl rfl (fun _ => y_mv) ?_
     refine qU 2 rfl rfl (fun _ => y_bin e13 rfl (bin_sub _ _ _)) ?_
     refine qU 3 rfl rfl (fun _ => y_mv) ?_
     refine qU 4 rfl rfl (fun _ => y_mv) ?_
     refine qU 5 rfl rfl (fun _ => y_mv) ?_
     refine qU 6 rfl rfl (fun _ => y_bin e13 rfl (bin_sub _ _ _)) ?_
     obtain ⟨p240, q25, q250, q251, h⟩ := h
     generalize q259 : p240.add (_ * _) = p24 at h
     refine qU 7 rfl rfl (fun _ => ycast_p (y_ix Try.underlying53 ts62 e9 rfl q25 q250 q251) q259) ?_
     obtain ⟨v26, c27, h⟩ := h
     refine qT 8 10 (fun h => Row h p24 (S_api_Xattr.cells v26)) rfl rfl c27 (fun _ c => y_lda ts62 rfl rfl c) ?_
     refine qT 9 10 (fun h => Row h b18 (S_api_Xattr.cells v16)) rfl rfl (Bx.row bx 0 0 rfl (by kernel_rfl)) (fun _ c => y_lda (cs := (S_api_Xattr.cells v16)) ts62 rfl e12 c) ?_
     refine wpA_loud (rs := [10]) (by kernel_rfl) rfl ?_
     refine mcons (step_of rfl ?_) mnil
     refine wpL_callv e3 (lcons rfl (lcons rfl lnil)) (a3_i _ _ _ _ h) rfl ?_
     intro r28 hp h
     refine qn ?_
     refine ⟨hs_dead rfl (hs_dead rfl hs_nil), ?_⟩
     obtain ⟨p300, q31, q310, q311, h⟩ := h
     generalize q319 : p300.add (_ * _) = p30 at h
     refine qU 11 rfl rfl (fun _ => ycast_p (y_ix Try.underlying53 ts62 e9 rfl q31 q310 q311) q319) ?_
     refine wpA_loud (rs := [12]) (by kernel_rfl) rfl ?_
     refine mcons (step_of rfl ?_) mnil
     refine wpL_sta ts62 rfl rfl rfl rfl h ?_
     generalize setCells _ _ _ _ = hp
     intro h
     refine qn ?_
     refine ⟨hs_dead rfl (hs_dead rfl hs_nil), ?_⟩
     refine qt (by kernel_rfl) ?_
     refine wpE_exit ?_
     exact ⟨u7.1, ⟨e9, e2, e3, e21, e22, e23, trivial⟩, h⟩
    ·refine wpE_skip ?_
     refine qr ?_
     refine qm ?_
     refine qy rfl (y_lda (cs := (S_api_Xattr.cells v16)) ts62 rfl e12 (Bx.row bx 0 0 rfl (by kernel_rfl))) ?_
     refine wpL_bsf Try.underlying53 ts62 tz62 rfl rfl (pcons rfl rfl) (full_cons rfl rfl full_nil) rfl h rfl ?_
     intro b33 hp h
     refine wpL_appsI Try.underlying53 Try.underlying53 ts62 ti62 (by decide) tz62 rfl (lcons e9 (lcons rfl lnil)) h rfl ?_
     intro v35 hp h
     refine qa ?_
     refine qn ?_
     exact ⟨v35, ⟨rfl, e2, e3, e21, e22, e23, trivial⟩, h⟩
   ·refine wpE_draw mixed rfl ?_
    refine qU 0 rfl rfl (fun _ => y_mv) ?_
    refine qU 1 rfl rfl (fun _ => y_bin rfl rfl (bin_gtr _ _ _)) ?_
    refine qU 2 rfl rfl (fun _ => y_mv) ?_
    refine wpA_split h (fun g37 h => ?_) (fun g37 h => ?_)
    ·refine qV 3 rfl rfl g37 (fun _ => y_mv) ?_
     refine qV 4 rfl rfl g37 (fun _ => y_mv) ?_
     refine qV 5 rfl rfl g37 (fun _ => y_mv) ?_
     refine qV 6 rfl rfl g37 (fun _ => y_bin rfl rfl (bin_sub _ _ _)) ?_
     obtain ⟨p380, q39, q390, q391, h⟩ := h
     generalize q399 : p380.add (_ * _) = p38 at h
     refine qV 7 rfl rfl g37 (fun _ => ycast_p (y_ix Try.underlying53 ts62 e9 rfl q39 q390 q391) q399) ?_
     obtain ⟨v40, c41, h⟩ := h
     refine wpA_take (i := 8) (kk := 10) (fun h => Row h p38 (S_api_Xattr.cells v40)) rfl rfl rfl (by kernel_rfl) (by kernel_rfl) (wt_bool rfl rfl rfl (vbool rfl g37) rfl) (fun _ _ _ _ h => h) c41 (fun _ c => y_lda ts62 rfl rfl c) ?_
     refine wpA_take (i := 9) (kk := 10) (fun h => Row h b18 (S_api_Xattr.cells v16)) rfl rfl rfl (by kernel_rfl) (by kernel_rfl) (wt_bool rfl rfl rfl (vbool rfl g37) rfl) (fun _ _ _ _ h => h) (Bx.row bx 0 0 rfl (by kernel_rfl)) (fun _ c => y_lda (cs := (S_api_Xattr.cells v16)) ts62 rfl rfl c) ?_
     refine wpA_loud (rs := [10]) (by kernel_rfl) rfl ?_
     refine mcons (step_of rfl ?_) mnil
     refine qg rfl g37 ?_
     refine wpL_callv e2 (lcons rfl (lcons rfl lnil)) (a2_i _ _ _ _ h) rfl ?_
     intro r42 hp h
     obtain ⟨kx, h⟩ := h
     replace bx := Bx.keep bx kx rfl
     refine qn ?_
     refine ⟨hs_dead rfl (hs_dead rfl hs_nil), ?_⟩
     refine qV 11 rfl rfl g37 (fun _ => y_bin rfl rfl (bin_eql _ _ _)) ?_
     refine qU 12 rfl rfl (fun _ => y_pickt (vbool rfl g37)) ?_
     refine qt (by kernel_rfl) ?_
     exact ⟨(r42 == (0 : Int)), ⟨rfl, e2, e3, e9, rfl, rfl, e21, e22, e23, bx⟩, h⟩
    ·refine qW 3 rfl rfl g37 ?_
     refine qW 4 rfl rfl g37 ?_
     refine qW 5 rfl rfl g37 ?_
     refine qW 6 rfl rfl g37 ?_
     refine qW 7 rfl rfl g37 ?_
     refine qW 8 rfl rfl g37 ?_
     refine qW 9 rfl rfl g37 ?_
     refine qW 10 rfl rfl g37 ?_
     refine qW 11 rfl rfl g37 ?_
     refine qU 12 rfl rfl (fun _ => y_pickf (vbool rfl g37)) ?_
     refine qt (by kernel_rfl) ?_
     exact ⟨false, ⟨rfl, e2, e3, e9, rfl, rfl, e21, e22, e23, bx⟩, h⟩
 ·refine wpE_exit ?_
  refine qs ?_
  refine qm ?_
  refine qa ?_
  refine qn ?_
  refine wpE_ret ?_
  exact body_r u7.1 rfl (rs_tmp e9 rs_nil) rfl h

set_option maxHeartbeats 4000000 in
theorem join_named_1.lift {a0 : S_api_Xattr} {a1 : S_api_Xattr} {Q : Int → Hp → Prop} {hp : Hp} (h : join_named_1 a0 a1 Q hp) : CallsH Try.prog 59 #[S_api_Xattr.enc a0, S_api_Xattr.enc a1] hp (Rt (Value.int .i64) Q) := by
 unfold join_named_1 at h
 refine calls_of 10 Try.func59 rfl rfl ?_
 refine qs ?_
 refine wpL_boxX (vs := (S_api_Xattr.cells a0)) rfl rfl Bx.nil h rfl ?_
 intro b1 hp h bx
 refine wpL_boxX (vs := (S_api_Xattr.cells a1)) rfl rfl bx h rfl ?_
 intro b3 hp h bx
 refine qa ?_
 refine qn ?_
 refine qs ?_
 refine qy rfl (y_fa fa62_0 rfl) ?_
 refine qy rfl (y_ld (v := (vS a0.Name)) ts9 rfl (Bx.cell bx 1 0 rfl (by kernel_rfl))) ?_
 refine qy rfl (y_fa fa62_0 rfl) ?_
 refine qy rfl (y_ld (v := (vS a1.Name)) ts9 rfl (Bx.cell bx 0 0 rfl (by kernel_rfl))) ?_
 refine wpL_call (vs := [vS a0.Name, vS a1.Name]) tc60 (lcons rfl (lcons rfl lnil)) (cmp_Compare_string.lift h) rfl ?_
 intro r5 hp h
 refine qa ?_
 refine qn ?_
 refine wpE_ret ?_
 exact body_r r5 rfl (rs_tmp rfl rs_nil) rfl h

set_option maxHeartbeats 4000000 in
theorem join_greater_api_Xattr.lift {a0 : S_api_Xattr} {a1 : S_api_Xattr} {a2 : Value} {a2_f : S_api_Xattr → S_api_Xattr → (Int → Hp → Prop) → Hp → Prop} (a2_i : ∀ x0 x1 Q h, a2_f x0 x1 Q h → CallsV Try.prog a2 [S_api_Xattr.enc x0, S_api_Xattr.enc x1] h (Rt (Value.int .i64) Q)) {Q : S_api_Xattr → Hp → Prop} {hp : Hp} (h : join_greater_api_Xattr a0 a1 a2_f Q hp) : CallsH Try.prog 62 #[S_api_Xattr.enc a0, S_api_Xattr.enc a1, a2] hp (Rt S_api_Xattr.enc Q) := by
 unfold join_greater_api_Xattr at h
 refine calls_of 14 Try.func62 rfl rfl ?_
 refine qs ?_
 refine wpL_boxX (vs := (S_api_Xattr.cells a0)) rfl rfl Bx.nil h rfl ?_
 intro b1 hp h bx
 refine wpL_boxX (vs := (S_api_Xattr.cells a1)) rfl rfl bx h rfl ?_
 intro b3 hp h bx
 refine wpL_allocX (zs := (S_api_Xattr.cells (S_api_Xattr.mk [] (S_api_Stamp.mk 0 0) [] false))) tz62 rfl bx h rfl ?_
 intro b5 hp h bx
 refine qn ?_
 refine qe ?_
 refine qs ?_
 refine qm ?_
 refine qy rfl (y_lda (cs := (S_api_Xattr.cells a0)) ts62 rfl rfl (Bx.row bx 2 0 rfl (by kernel_rfl))) ?_
 refine qy rfl (y_lda (cs := (S_api_Xattr.cells a1)) ts62 rfl rfl (Bx.row bx 1 0 rfl (by kernel_rfl))) ?_
 refine wpL_callv rfl (lcons rfl (lcons rfl lnil)) (a2_i _ _ _ _ h) rfl ?_
 intro r7 hp h
 obtain ⟨kx, h⟩ := h
 replace bx := Bx.keep bx kx rfl
 refine qy rfl (y_bin rfl rfl (bin_lss _ _ _)) ?_
 refine qn ?_
 refine qc rfl h (fun h => ?_) fun h => ?_
 ·refine qs ?_
  refine qy rfl (y_lda (cs := (S_api_Xattr.cells a1)) ts62 rfl rfl (Bx.row bx 1 0 rfl (by kernel_rfl))) ?_
  refine wpL_staX (L' := [(b5, (S_api_Xattr.cells a1)), (b3, (S_api_Xattr.cells a1)), (b1, (S_api_Xattr.cells a0))]) (i := 0) (off := 0) (cs' := (S_api_Xattr.cells a1)) ts62 rfl rfl rfl rfl bx rfl (by kernel_rfl) h (by kernel_rfl) (by kernel_rfl) ?_
  intro hp h bx
  refine qn ?_
  refine wpE_ret ?_
  exact body_r a1 rfl (rs_cella ts62 rfl rfl (Bx.row bx 0 0 rfl (by kernel_rfl)) rs_nil) rfl h
 ·refine wpE_skip ?_
  refine qs ?_
  refine qy rfl (y_lda (cs := (S_api_Xattr.cells a0)) ts62 rfl rfl (Bx.row bx 2 0 rfl (by kernel_rfl))) ?_
  refine wpL_staX (L' := [(b5, (S_api_Xattr.cells a0)), (b3, (S_api_Xattr.cells a1)), (b1, (S_api_Xattr.cells a0))]) (i := 0) (off := 0) (cs' := (S_api_Xattr.cells a0)) ts62 rfl rfl rfl rfl bx rfl (by kernel_rfl) h (by kernel_rfl) (by kernel_rfl) ?_
  intro hp h bx
  refine qn ?_
  refine wpE_ret ?_
  exact body_r a0 rfl (rs_cella ts62 rfl rfl (Bx.row bx 0 0 rfl (by kernel_rfl)) rs_nil) rfl h

set_option maxHeartbeats 4000000 in
theorem join_flag.lift {a0 : Bool} {Q : Int → Hp → Prop} {hp : Hp} (h : join_flag a0 Q hp) : CallsH Try.prog 75 #[.bool a0] hp (Rt (Value.int .i64) Q) := by
 unfold join_flag at h
 refine calls_of 4 Try.func75 rfl rfl ?_
 refine qs ?_
 refine qa ?_
 refine qn ?_
 refine qe ?_
 refine qs ?_
 refine qm ?_
 refine qn ?_
 refine qc rfl h (fun h => ?_) fun h => ?_
 ·refine qs ?_
  refine qa ?_
  refine qn ?_
  refine wpE_ret ?_
  exact body_r 1 rfl (rs_tmp rfl rs_nil) rfl h
 ·refine wpE_skip ?_
  refine qs ?_
  refine qa ?_
  refine qn ?_
  refine wpE_ret ?_
  exact body_r 0 rfl (rs_tmp rfl rs_nil) rfl h

set_option maxHeartbeats 4000000 in
theorem join_xattrs.lift {a0 : S_api_Xattr} {a1 : S_api_Xattr} {Q : Int → Hp → Prop} {hp : Hp} (h : join_xattrs a0 a1 Q hp) : CallsH Try.prog 63 #[S_api_Xattr.enc a0, S_api_Xattr.enc a1] hp (Rt (Value.int .i64) Q) := by
 unfold join_xattrs at h
 refine calls_of 24 Try.func63 rfl rfl ?_
 refine qs ?_
 refine wpL_boxX (vs := (S_api_Xattr.cells a0)) rfl rfl Bx.nil h rfl ?_
 intro b1 hp h bx
 refine wpL_boxX (vs := (S_api_Xattr.cells a1)) rfl rfl bx h rfl ?_
 intro b3 hp h bx
 refine qa ?_
 refine qn ?_
 refine qe ?_
 refine wpE_draw mixed rfl ?_
 refine qU 0 rfl rfl (fun _ => y_fa fa62_1 rfl) ?_
 refine qT 1 4 (fun h => Row h (b1.add 1) (S_api_Stamp.cells a0.At)) rfl rfl (Bx.row bx 1 1 rfl (by kernel_rfl)) (fun _ c => y_lda (cs := (S_api_Stamp.cells a0.At)) ts27 rfl rfl c) ?_
 refine qU 2 rfl rfl (fun _ => y_fa fa62_1 rfl) ?_
 refine qT 3 4 (fun h => Row h (b3.add 1) (S_api_Stamp.cells a1.At)) rfl rfl (Bx.row bx 0 1 rfl (by kernel_rfl)) (fun _ c => y_lda (cs := (S_api_Stamp.cells a1.At)) ts27 rfl rfl c) ?_
 refine qU 5 rfl rfl (fun _ => y_fa fa62_3 rfl) ?_
 refine qT 6 7 (fun h => Hp.cell? h (b1.add 4) = some (Value.bool a0.Gone)) rfl rfl (Bx.cell bx 1 4 rfl (by kernel_rfl)) (fun _ c => y_ld (v := (Value.bool a0.Gone)) ts4 rfl c) ?_
 refine qU 8 rfl rfl (fun _ => y_fa fa62_3 rfl) ?_
 refine qT 9 10 (fun h => Hp.cell? h (b3.add 4) = some (Value.bool a1.Gone)) rfl rfl (Bx.cell bx 0 4 rfl (by kernel_rfl)) (fun _ c => y_ld (v := (Value.bool a1.Gone)) ts4 rfl c) ?_
 refine qU 12 rfl rfl (fun _ => y_fa fa62_2 rfl) ?_
 refine qT 13 16 (fun h => Hp.cell? h (b1.add 3) = some (vS a0.Val)) rfl rfl (Bx.cell bx 1 3 rfl (by kernel_rfl)) (fun _ c => y_ld (v := (vS a0.Val)) ts9 rfl c) ?_
 refine qU 14 rfl rfl (fun _ => y_fa fa62_2 rfl) ?_
 refine qT 15 16 (fun h => Hp.cell? h (b3.add 3) = some (vS a1.Val)) rfl rfl (Bx.cell bx 0 3 rfl (by kernel_rfl)) (fun _ c => y_ld (v := (vS a1.Val)) ts9 rfl c) ?_
 refine wpA_loud (rs := [4]) (by kernel_rfl) rfl ?_
 refine mcons (step_of rfl ?_) mnil
 refine wpL_call (vs := [S_api_Stamp.enc a0.At, S_api_Stamp.enc a1.At]) tc27 (lcons rfl (lcons rfl lnil)) (join_stamps.lift h) rfl ?_
 intro r5 hp h
 obtain ⟨kx, h⟩ := h
 replace bx := Bx.keep bx kx rfl
 refine qn ?_
 refine ⟨hs_live (Bx.cell bx 0 3 rfl (by kernel_rfl)) (hs_live (Bx.cell bx 1 3 rfl (by kernel_rfl)) (hs_live (Bx.cell bx 0 4 rfl (by kernel_rfl)) (hs_live (Bx.cell bx 1 4 rfl (by kernel_rfl)) (hs_dead rfl (hs_dead rfl hs_nil))))), ?_⟩
 refine wpA_loud (rs := [7]) (by kernel_rfl) rfl ?_
 refine mcons (step_of rfl ?_) mnil
 refine wpL_call (vs := [.bool a0.Gone]) tc75 (lcons rfl lnil) (join_flag.lift h) rfl ?_
 intro r7 hp h
 obtain ⟨kx, h⟩ := h
 replace bx := Bx.keep bx kx rfl
 refine qn ?_
 refine ⟨hs_live (Bx.cell bx 0 3 rfl (by kernel_rfl)) (hs_live (Bx.cell bx 1 3 rfl (by kernel_rfl)) (hs_live (Bx.cell bx 0 4 rfl (by kernel_rfl)) (hs_dead rfl (hs_dead rfl (hs_dead rfl hs_nil))))), ?_⟩
 refine wpA_loud (rs := [10]) (by kernel_rfl) rfl ?_
 refine mcons (step_of rfl ?_) mnil
 refine wpL_call (vs := [.bool a1.Gone]) tc75 (lcons rfl lnil) (join_flag.lift h) rfl ?_
 intro r9 hp h
 obtain ⟨kx, h⟩ := h
 replace bx := Bx.keep bx kx rfl
 refine qn ?_
 refine ⟨hs_live (Bx.cell bx 0 3 rfl (by kernel_rfl)) (hs_live (Bx.cell bx 1 3 rfl (by kernel_rfl)) (hs_dead rfl (hs_dead rfl (hs_dead rfl (hs_dead rfl hs_nil))))), ?_⟩
 refine wpA_loud (rs := [11]) (by kernel_rfl) rfl ?_
 refine mcons (step_of rfl ?_) mnil
 refine wpL_call (vs := [.int .i64 r7, .int .i64 r9]) tc41 (lcons rfl (lcons rfl lnil)) (cmp_Compare_int.lift h) rfl ?_
 intro r11 hp h
 obtain ⟨kx, h⟩ := h
 replace bx := Bx.keep bx kx rfl
 refine qn ?_
 refine ⟨hs_live (Bx.cell bx 0 3 rfl (by kernel_rfl)) (hs_live (Bx.cell bx 1 3 rfl (by kernel_rfl)) (hs_dead rfl (hs_dead rfl (hs_dead rfl (hs_dead rfl hs_nil))))), ?_⟩
 refine wpA_loud (rs := [16]) (by kernel_rfl) rfl ?_
 refine mcons (step_of rfl ?_) mnil
 refine wpL_call (vs := [vS a0.Val, vS a1.Val]) tc60 (lcons rfl (lcons rfl lnil)) (cmp_Compare_string.lift h) rfl ?_
 intro r13 hp h
 refine qn ?_
 refine ⟨hs_dead rfl (hs_dead rfl (hs_dead rfl (hs_dead rfl (hs_dead rfl (hs_dead rfl hs_nil))))), ?_⟩
 refine wpA_loud (rs := [17]) (by kernel_rfl) rfl ?_
 refine mcons (step_of rfl ?_) mnil
 refine wpL_bsl Try.underlying23 ts3 tz3 rfl rfl rfl (pcons rfl (pcons rfl (pcons rfl rfl))) rfl h rfl ?_
 intro b15 hp h
 refine qn ?_
 refine ⟨hs_dead rfl (hs_dead rfl (hs_dead rfl (hs_dead rfl (hs_dead rfl (hs_dead rfl hs_nil))))), ?_⟩
 refine wpA_loud (rs := [18]) (by kernel_rfl) rfl ?_
 refine mcons (step_of rfl ?_) mnil
 refine wpL_call (vs := [Sl.enc (Sl.mk (some b15) 3 3)]) tc40 (lcons rfl lnil) (cmp_Or_int.lift h) rfl ?_
 intro r17 hp h
 refine qn ?_
 refine ⟨hs_dead rfl (hs_dead rfl (hs_dead rfl (hs_dead rfl (hs_dead rfl (hs_dead rfl hs_nil))))), ?_⟩
 refine qU 19 rfl rfl (fun _ => y_as) ?_
 refine qt (by kernel_rfl) ?_
 refine wpE_ret ?_
 exact body_r r17 rfl (rs_tmp rfl rs_nil) rfl h

set_option maxHeartbeats 4000000 in
theorem join_named_2.lift {a0 : S_api_Xattr} {a1 : S_api_Xattr} {Q : S_api_Xattr → Hp → Prop} {hp : Hp} (h : join_named_2 a0 a1 Q hp) : CallsH Try.prog 61 #[S_api_Xattr.enc a0, S_api_Xattr.enc a1] hp (Rt S_api_Xattr.enc Q) := by
 unfold join_named_2 at h
 refine calls_of 8 Try.func61 rfl rfl ?_
 refine qs ?_
 refine wpL_boxX (vs := (S_api_Xattr.cells a0)) rfl rfl Bx.nil h rfl ?_
 intro b1 hp h bx
 refine wpL_boxX (vs := (S_api_Xattr.cells a1)) rfl rfl bx h rfl ?_
 intro b3 hp h bx
 refine wpL_allocX (zs := (S_api_Xattr.cells (S_api_Xattr.mk [] (S_api_Stamp.mk 0 0) [] false))) tz62 rfl bx h rfl ?_
 intro b5 hp h bx
 refine qn ?_
 refine qs ?_
 refine qy rfl (y_lda (cs := (S_api_Xattr.cells a0)) ts62 rfl rfl (Bx.row bx 2 0 rfl (by kernel_rfl))) ?_
 refine qy rfl (y_lda (cs := (S_api_Xattr.cells a1)) ts62 rfl rfl (Bx.row bx 1 0 rfl (by kernel_rfl))) ?_
 refine wpL_call (vs := [S_api_Xattr.enc a0, S_api_Xattr.enc a1, .func (.func 63) #[] #[]]) tc62 (lcons rfl (lcons rfl (lcons rfl lnil))) (join_greater_api_Xattr.lift (fun x0 x1 Q h hm => ⟨63, [], [], rfl, tc63, join_xattrs.lift hm⟩) h) rfl ?_
 intro r7 hp h
 obtain ⟨kx, h⟩ := h
 replace bx := Bx.keep (bx.sub (L' := [(b5, (S_api_Xattr.cells (S_api_Xattr.mk [] (S_api_Stamp.mk 0 0) [] false)))]) (.cons_cons _ (.cons _ (.cons _ .slnil)))) kx rfl
 refine wpL_staX (L' := [(b5, (S_api_Xattr.cells r7))]) (i := 0) (off := 0) (cs' := (S_api_Xattr.cells r7)) ts62 rfl rfl rfl rfl bx rfl (by kernel_rfl) h (by kernel_rfl) (by kernel_rfl) ?_
 intro hp h bx
 refine qn ?_
 refine wpE_ret ?_
 exact body_r r7 rfl (rs_cella ts62 rfl rfl (Bx.row bx 0 0 rfl (by kernel_rfl)) rs_nil) rfl h

set_option maxHeartbeats 4000000 in
theorem join_named.lift {a0 : Sl} {Q : Sl → Hp → Prop} {hp : Hp} (h : join_named a0 Q hp) : CallsH Try.prog 33 #[Sl.enc a0] hp (Rt Sl.enc Q) := by
 unfold join_named at h
 refine calls_of 5 Try.func33 rfl rfl ?_
 refine qs ?_
 refine qa ?_
 refine qn ?_
 refine qs ?_
 refine qm ?_
 refine wpL_call (vs := [Sl.enc a0, Sl.enc Sl.nil, .func (.func 59) #[] #[], .func (.func 61) #[] #[]]) tc58 (lcons rfl (lcons rfl (lcons rfl (lcons rfl lnil)))) (join_merged_api_Xattr.lift (fun x0 x1 Q h hm => ⟨59, [], [], rfl, tc59, join_named_1.lift hm⟩) (fun x0 x1 Q h hm => ⟨61, [], [], rfl, tc61, join_named_2.lift hm⟩) h) rfl ?_
 intro r1 hp h
 refine qa ?_
 refine qn ?_
 refine wpE_ret ?_
 exact body_r r1 rfl (rs_tmp rfl rs_nil) rfl h

set_option maxHeartbeats 4000000 in
theorem join_greater_api_Attr.lift {a0 : S_api_Attr} {a1 : S_api_Attr} {a2 : Value} {a2_f : S_api_Attr → S_api_Attr → (Int → Hp → Prop) → Hp → Prop} (a2_i : ∀ x0 x1 Q h, a2_f x0 x1 Q h → CallsV Try.prog a2 [S_api_Attr.enc x0, S_api_Attr.enc x1] h (Rt (Value.int .i64) Q)) {Q : S_api_Attr → Hp → Prop} {hp : Hp} (h : join_greater_api_Attr a0 a1 a2_f Q hp) : CallsH Try.prog 42 #[S_api_Attr.enc a0, S_api_Attr.enc a1, a2] hp (Rt S_api_Attr.enc Q) := by
 unfold join_greater_api_Attr at h
 refine calls_of 14 Try.func42 rfl rfl ?_
 refine qs ?_
 refine wpL_boxX (vs := (S_api_Attr.cells a0)) rfl rfl Bx.nil h rfl ?_
 intro b1 hp h bx
 refine wpL_boxX (vs := (S_api_Attr.cells a1)) rfl rfl bx h rfl ?_
 intro b3 hp h bx
 refine wpL_allocX (zs := (S_api_Attr.cells (S_api_Attr.mk (S_api_Stamp.mk 0 0) 0 0))) tz49 rfl bx h rfl ?_
 intro b5 hp h bx
 refine qn ?_
 refine qe ?_
 refine qs ?_
 refine qm ?_
 refine qy rfl (y_lda (cs := (S_api_Attr.cells a0)) ts49 rfl rfl (Bx.row bx 2 0 rfl (by kernel_rfl))) ?_
 refine qy rfl (y_lda (cs := (S_api_Attr.cells a1)) ts49 rfl rfl (Bx.row bx 1 0 rfl (by kernel_rfl))) ?_
 refine wpL_callv rfl (lcons rfl (lcons rfl lnil)) (a2_i _ _ _ _ h) rfl ?_
 intro r7 hp h
 obtain ⟨kx, h⟩ := h
 replace bx := Bx.keep bx kx rfl
 refine qy rfl (y_bin rfl rfl (bin_lss _ _ _)) ?_
 refine qn ?_
 refine qc rfl h (fun h => ?_) fun h => ?_
 ·refine qs ?_
  refine qy rfl (y_lda (cs := (S_api_Attr.cells a1)) ts49 rfl rfl (Bx.row bx 1 0 rfl (by kernel_rfl))) ?_
  refine wpL_staX (L' := [(b5, (S_api_Attr.cells a1)), (b3, (S_api_Attr.cells a1)), (b1, (S_api_Attr.cells a0))]) (i := 0) (off := 0) (cs' := (S_api_Attr.cells a1)) ts49 rfl rfl rfl rfl bx rfl (by kernel_rfl) h (by kernel_rfl) (by kernel_rfl) ?_
  intro hp h bx
  refine qn ?_
  refine wpE_ret ?_
  exact body_r a1 rfl (rs_cella ts49 rfl rfl (Bx.row bx 0 0 rfl (by kernel_rfl)) rs_nil) rfl h
 ·refine wpE_skip ?_
  refine qs ?_
  refine qy rfl (y_lda (cs := (S_api_Attr.cells a0)) ts49 rfl rfl (Bx.row bx 2 0 rfl (by kernel_rfl))) ?_
  refine wpL_staX (L' := [(b5, (S_api_Attr.cells a0)), (b3, (S_api_Attr.cells a1)), (b1, (S_api_Attr.cells a0))]) (i := 0) (off := 0) (cs' := (S_api_Attr.cells a0)) ts49 rfl rfl rfl rfl bx rfl (by kernel_rfl) h (by kernel_rfl) (by kernel_rfl) ?_
  intro hp h bx
  refine qn ?_
  refine wpE_ret ?_
  exact body_r a0 rfl (rs_cella ts49 rfl rfl (Bx.row bx 0 0 rfl (by kernel_rfl)) rs_nil) rfl h

set_option maxHeartbeats 4000000 in
theorem cmp_isNaN_uint64.lift {a0 : Int} {Q : Bool → Hp → Prop} {hp : Hp} (h : cmp_isNaN_uint64 a0 Q hp) : CallsH Try.prog 78 #[.int .u64 a0] hp (Rt Value.bool Q) := by
 unfold cmp_isNaN_uint64 at h
 refine calls_of 6 Try.func78 rfl rfl ?_
 refine qs ?_
 refine qa ?_
 refine qn ?_
 refine qs ?_
 iterate 2 refine qm ?_
 refine qy rfl (y_bin rfl rfl (bin_neq _ _ _)) ?_
 refine qa ?_
 refine qn ?_
 refine wpE_ret ?_
 exact body_r (a0 != a0) rfl (rs_tmp rfl rs_nil) rfl h

set_option maxHeartbeats 4000000 in
theorem cmp_Compare_uint64.lift {a0 : Int} {a1 : Int} {Q : Int → Hp → Prop} {hp : Hp} (h : cmp_Compare_uint64 a0 a1 Q hp) : CallsH Try.prog 67 #[.int .u64 a0, .int .u64 a1] hp (Rt (Value.int .i64) Q) := by
 unfold cmp_Compare_uint64 at h
 refine calls_of 20 Try.func67 rfl rfl ?_
 refine qs ?_
 refine qa ?_
 refine qn ?_
 refine qs ?_
 refine qm ?_
 refine wpL_call (vs := [.int .u64 a0]) tc78 (lcons rfl lnil) (cmp_isNaN_uint64.lift h) rfl ?_
 intro r1 hp h
 refine qa ?_
 refine qn ?_
 refine qs ?_
 refine qm ?_
 refine wpL_call (vs := [.int .u64 a1]) tc78 (lcons rfl lnil) (cmp_isNaN_uint64.lift h) rfl ?_
 intro r3 hp h
 refine qa ?_
 refine qn ?_
 refine qe ?_
 refine qs ?_
 refine qm ?_
 refine qn ?_
 refine qc rfl h (fun h => ?_) fun h => ?_
 ·refine qe ?_
  refine qs ?_
  refine qm ?_
  refine qn ?_
  refine qc rfl h (fun h => ?_) fun h => ?_
  ·refine qs ?_
   refine qa ?_
   refine qn ?_
   refine wpE_ret ?_
   exact body_r 0 rfl (rs_tmp rfl rs_nil) rfl h
  ·refine wpE_skip ?_
   refine qs ?_
   refine qa ?_
   refine qn ?_
   refine wpE_ret ?_
   exact body_r (-1) rfl (rs_tmp rfl rs_nil) rfl h
 ·refine wpE_skip ?_
  refine qe ?_
  refine qs ?_
  refine qm ?_
  refine qn ?_
  refine qc rfl h (fun h => ?_) fun h => ?_
  ·refine qs ?_
   refine qa ?_
   refine qn ?_
   refine wpE_ret ?_
   exact body_r 1 rfl (rs_tmp rfl rs_nil) rfl h
  ·refine wpE_skip ?_
   refine qe ?_
   refine qs ?_
   iterate 2 refine qm ?_
   refine qy rfl (y_bin rfl rfl (bin_lss _ _ _)) ?_
   refine qn ?_
   refine qc rfl h (fun h => ?_) fun h => ?_
   ·refine qs ?_
    refine qa ?_
    refine qn ?_
    refine wpE_ret ?_
    exact body_r (-1) rfl (rs_tmp rfl rs_nil) rfl h
   ·refine wpE_skip ?_
    refine qe ?_
    refine qs ?_
    iterate 2 refine qm ?_
    refine qy rfl (y_bin rfl rfl (bin_gtr _ _ _)) ?_
    refine qn ?_
    refine qc rfl h (fun h => ?_) fun h => ?_
    ·refine qs ?_
     refine qa ?_
     refine qn ?_
     refine wpE_ret ?_
     exact body_r 1 rfl (rs_tmp rfl rs_nil) rfl h
    ·refine wpE_skip ?_
     refine qs ?_
     refine qa ?_
     refine qn ?_
     refine wpE_ret ?_
     exact body_r 0 rfl (rs_tmp rfl rs_nil) rfl h

set_option maxHeartbeats 4000000 in
theorem join_attrs.lift {a0 : S_api_Attr} {a1 : S_api_Attr} {Q : Int → Hp → Prop} {hp : Hp} (h : join_attrs a0 a1 Q hp) : CallsH Try.prog 43 #[S_api_Attr.enc a0, S_api_Attr.enc a1] hp (Rt (Value.int .i64) Q) := by
 unfold join_attrs at h
 refine calls_of 22 Try.func43 rfl rfl ?_
 refine qs ?_
 refine wpL_boxX (vs := (S_api_Attr.cells a0)) rfl rfl Bx.nil h rfl ?_
 intro b1 hp h bx
 refine wpL_boxX (vs := (S_api_Attr.cells a1)) rfl rfl bx h rfl ?_
 intro b3 hp h bx
 refine qa ?_
 refine qn ?_
 refine qe ?_
 refine wpE_draw mixed rfl ?_
 refine qU 0 rfl rfl (fun _ => y_fa fa49_0 rfl) ?_
 refine qT 1 4 (fun h => Row h (b1.add 0) (S_api_Stamp.cells a0.At)) rfl rfl (Bx.row bx 1 0 rfl (by kernel_rfl)) (fun _ c => y_lda (cs := (S_api_Stamp.cells a0.At)) ts27 rfl rfl c) ?_
 refine qU 2 rfl rfl (fun _ => y_fa fa49_0 rfl) ?_
 refine qT 3 4 (fun h => Row h (b3.add 0) (S_api_Stamp.cells a1.At)) rfl rfl (Bx.row bx 0 0 rfl (by kernel_rfl)) (fun _ c => y_lda (cs := (S_api_Stamp.cells a1.At)) ts27 rfl rfl c) ?_
 refine qU 5 rfl rfl (fun _ => y_fa fa49_1 rfl) ?_
 refine qT 6 9 (fun h => Hp.cell? h (b1.add 2) = some ((Value.int .i64) a0.Mode)) rfl rfl (Bx.cell bx 1 2 rfl (by kernel_rfl)) (fun _ c => y_ld (v := ((Value.int .i64) a0.Mode)) ts3 rfl c) ?_
 refine qU 7 rfl rfl (fun _ => y_fa fa49_1 rfl) ?_
 refine qT 8 9 (fun h => Hp.cell? h (b3.add 2) = some ((Value.int .i64) a1.Mode)) rfl rfl (Bx.cell bx 0 2 rfl (by kernel_rfl)) (fun _ c => y_ld (v := ((Value.int .i64) a1.Mode)) ts3 rfl c) ?_
 refine qU 10 rfl rfl (fun _ => y_fa fa49_2 rfl) ?_
 refine qT 11 14 (fun h => Hp.cell? h (b1.add 3) = some ((Value.int .u64) a0.Time)) rfl rfl (Bx.cell bx 1 3 rfl (by kernel_rfl)) (fun _ c => y_ld (v := ((Value.int .u64) a0.Time)) ts47 rfl c) ?_
 refine qU 12 rfl rfl (fun _ => y_fa fa49_2 rfl) ?_
 refine qT 13 14 (fun h => Hp.cell? h (b3.add 3) = some ((Value.int .u64) a1.Time)) rfl rfl (Bx.cell bx 0 3 rfl (by kernel_rfl)) (fun _ c => y_ld (v := ((Value.int .u64) a1.Time)) ts47 rfl c) ?_
 refine wpA_loud (rs := [4]) (by kernel_rfl) rfl ?_
 refine mcons (step_of rfl ?_) mnil
 refine wpL_call (vs := [S_api_Stamp.enc a0.At, S_api_Stamp.enc a1.At]) tc27 (lcons rfl (lcons rfl lnil)) (join_stamps.lift h) rfl ?_
 intro r5 hp h
 obtain ⟨kx, h⟩ := h
 replace bx := Bx.keep bx kx rfl
 refine qn ?_
 refine ⟨hs_live (Bx.cell bx 0 3 rfl (by kernel_rfl)) (hs_live (Bx.cell bx 1 3 rfl (by kernel_rfl)) (hs_live (Bx.cell bx 0 2 rfl (by kernel_rfl)) (hs_live (Bx.cell bx 1 2 rfl (by kernel_rfl)) (hs_dead rfl (hs_dead rfl hs_nil))))), ?_⟩
 refine wpA_loud (rs := [9]) (by kernel_rfl) rfl ?_
 refine mcons (step_of rfl ?_) mnil
 refine wpL_call (vs := [.int .i64 a0.Mode, .int .i64 a1.Mode]) tc41 (lcons rfl (lcons rfl lnil)) (cmp_Compare_int.lift h) rfl ?_
 intro r7 hp h
 obtain ⟨kx, h⟩ := h
 replace bx := Bx.keep bx kx rfl
 refine qn ?_
 refine ⟨hs_live (Bx.cell bx 0 3 rfl (by kernel_rfl)) (hs_live (Bx.cell bx 1 3 rfl (by kernel_rfl)) (hs_dead rfl (hs_dead rfl (hs_dead rfl (hs_dead rfl hs_nil))))), ?_⟩
 refine wpA_loud (rs := [14]) (by kernel_rfl) rfl ?_
 refine mcons (step_of rfl ?_) mnil
 refine wpL_call (vs := [.int .u64 a0.Time, .int .u64 a1.Time]) tc67 (lcons rfl (lcons rfl lnil)) (cmp_Compare_uint64.lift h) rfl ?_
 intro r9 hp h
 refine qn ?_
 refine ⟨hs_dead rfl (hs_dead rfl (hs_dead rfl (hs_dead rfl (hs_dead rfl (hs_dead rfl hs_nil))))), ?_⟩
 refine wpA_loud (rs := [15]) (by kernel_rfl) rfl ?_
 refine mcons (step_of rfl ?_) mnil
 refine wpL_bsl Try.underlying23 ts3 tz3 rfl rfl rfl (pcons rfl (pcons rfl (pcons rfl rfl))) rfl h rfl ?_
 intro b11 hp h
 refine qn ?_
 refine ⟨hs_dead rfl (hs_dead rfl (hs_dead rfl (hs_dead rfl (hs_dead rfl (hs_dead rfl hs_nil))))), ?_⟩
 refine wpA_loud (rs := [16]) (by kernel_rfl) rfl ?_
 refine mcons (step_of rfl ?_) mnil
 refine wpL_call (vs := [Sl.enc (Sl.mk (some b11) 3 3)]) tc40 (lcons rfl lnil) (cmp_Or_int.lift h) rfl ?_
 intro r13 hp h
 refine qn ?_
 refine ⟨hs_dead rfl (hs_dead rfl (hs_dead rfl (hs_dead rfl (hs_dead rfl (hs_dead rfl hs_nil))))), ?_⟩
 refine qU 17 rfl rfl (fun _ => y_as) ?_
 refine qt (by kernel_rfl) ?_
 refine wpE_ret ?_
 exact body_r r13 rfl (rs_tmp rfl rs_nil) rfl h

set_option maxHeartbeats 4000000 in
theorem join_greater_api_Size.lift {a0 : S_api_Size} {a1 : S_api_Size} {a2 : Value} {a2_f : S_api_Size → S_api_Size → (Int → Hp → Prop) → Hp → Prop} (a2_i : ∀ x0 x1 Q h, a2_f x0 x1 Q h → CallsV Try.prog a2 [S_api_Size.enc x0, S_api_Size.enc x1] h (Rt (Value.int .i64) Q)) {Q : S_api_Size → Hp → Prop} {hp : Hp} (h : join_greater_api_Size a0 a1 a2_f Q hp) : CallsH Try.prog 44 #[S_api_Size.enc a0, S_api_Size.enc a1, a2] hp (Rt S_api_Size.enc Q) := by
 unfold join_greater_api_Size at h
 refine calls_of 14 Try.func44 rfl rfl ?_
 refine qs ?_
 refine wpL_boxX (vs := (S_api_Size.cells a0)) rfl rfl Bx.nil h rfl ?_
 intro b1 hp h bx
 refine wpL_boxX (vs := (S_api_Size.cells a1)) rfl rfl bx h rfl ?_
 intro b3 hp h bx
 refine wpL_allocX (zs := (S_api_Size.cells (S_api_Size.mk (S_api_Stamp.mk 0 0) 0))) tz51 rfl bx h rfl ?_
 intro b5 hp h bx
 refine qn ?_
 refine qe ?_
 refine qs ?_
 refine qm ?_
 refine qy rfl (y_lda (cs := (S_api_Size.cells a0)) ts51 rfl rfl (Bx.row bx 2 0 rfl (by kernel_rfl))) ?_
 refine qy rfl (y_lda (cs := (S_api_Size.cells a1)) ts51 rfl rfl (Bx.row bx 1 0 rfl (by kernel_rfl))) ?_
 refine wpL_callv rfl (lcons rfl (lcons rfl lnil)) (a2_i _ _ _ _ h) rfl ?_
 intro r7 hp h
 obtain ⟨kx, h⟩ := h
 replace bx := Bx.keep bx kx rfl
 refine qy rfl (y_bin rfl rfl (bin_lss _ _ _)) ?_
 refine qn ?_
 refine qc rfl h (fun h => ?_) fun h => ?_
 ·refine qs ?_
  refine qy rfl (y_lda (cs := (S_api_Size.cells a1)) ts51 rfl rfl (Bx.row bx 1 0 rfl (by kernel_rfl))) ?_
  refine wpL_staX (L' := [(b5, (S_api_Size.cells a1)), (b3, (S_api_Size.cells a1)), (b1, (S_api_Size.cells a0))]) (i := 0) (off := 0) (cs' := (S_api_Size.cells a1)) ts51 rfl rfl rfl rfl bx rfl (by kernel_rfl) h (by kernel_rfl) (by kernel_rfl) ?_
  intro hp h bx
  refine qn ?_
  refine wpE_ret ?_
  exact body_r a1 rfl (rs_cella ts51 rfl rfl (Bx.row bx 0 0 rfl (by kernel_rfl)) rs_nil) rfl h
 ·refine wpE_skip ?_
  refine qs ?_
  refine qy rfl (y_lda (cs := (S_api_Size.cells a0)) ts51 rfl rfl (Bx.row bx 2 0 rfl (by kernel_rfl))) ?_
  refine wpL_staX (L' := [(b5, (S_api_Size.cells a0)), (b3, (S_api_Size.cells a1)), (b1, (S_api_Size.cells a0))]) (i := 0) (off := 0) (cs' := (S_api_Size.cells a0)) ts51 rfl rfl rfl rfl bx rfl (by kernel_rfl) h (by kernel_rfl) (by kernel_rfl) ?_
  intro hp h bx
  refine qn ?_
  refine wpE_ret ?_
  exact body_r a0 rfl (rs_cella ts51 rfl rfl (Bx.row bx 0 0 rfl (by kernel_rfl)) rs_nil) rfl h

set_option maxHeartbeats 4000000 in
theorem join_sizes.lift {a0 : S_api_Size} {a1 : S_api_Size} {Q : Int → Hp → Prop} {hp : Hp} (h : join_sizes a0 a1 Q hp) : CallsH Try.prog 45 #[S_api_Size.enc a0, S_api_Size.enc a1] hp (Rt (Value.int .i64) Q) := by
 unfold join_sizes at h
 refine calls_of 17 Try.func45 rfl rfl ?_
 refine qs ?_
 refine wpL_boxX (vs := (S_api_Size.cells a0)) rfl rfl Bx.nil h rfl ?_
 intro b1 hp h bx
 refine wpL_boxX (vs := (S_api_Size.cells a1)) rfl rfl bx h rfl ?_
 intro b3 hp h bx
 refine qa ?_
 refine qn ?_
 refine qe ?_
 refine wpE_draw mixed rfl ?_
 refine qU 0 rfl rfl (fun _ => y_fa fa51_0 rfl) ?_
 refine qT 1 4 (fun h => Row h (b1.add 0) (S_api_Stamp.cells a0.At)) rfl rfl (Bx.row bx 1 0 rfl (by kernel_rfl)) (fun _ c => y_lda (cs := (S_api_Stamp.cells a0.At)) ts27 rfl rfl c) ?_
 refine qU 2 rfl rfl (fun _ => y_fa fa51_0 rfl) ?_
 refine qT 3 4 (fun h => Row h (b3.add 0) (S_api_Stamp.cells a1.At)) rfl rfl (Bx.row bx 0 0 rfl (by kernel_rfl)) (fun _ c => y_lda (cs := (S_api_Stamp.cells a1.At)) ts27 rfl rfl c) ?_
 refine qU 5 rfl rfl (fun _ => y_fa fa51_1 rfl) ?_
 refine qT 6 9 (fun h => Hp.cell? h (b1.add 2) = some ((Value.int .i64) a0.N)) rfl rfl (Bx.cell bx 1 2 rfl (by kernel_rfl)) (fun _ c => y_ld (v := ((Value.int .i64) a0.N)) ts3 rfl c) ?_
 refine qU 7 rfl rfl (fun _ => y_fa fa51_1 rfl) ?_
 refine qT 8 9 (fun h => Hp.cell? h (b3.add 2) = some ((Value.int .i64) a1.N)) rfl rfl (Bx.cell bx 0 2 rfl (by kernel_rfl)) (fun _ c => y_ld (v := ((Value.int .i64) a1.N)) ts3 rfl c) ?_
 refine wpA_loud (rs := [4]) (by kernel_rfl) rfl ?_
 refine mcons (step_of rfl ?_) mnil
 refine wpL_call (vs := [S_api_Stamp.enc a0.At, S_api_Stamp.enc a1.At]) tc27 (lcons rfl (lcons rfl lnil)) (join_stamps.lift h) rfl ?_
 intro r5 hp h
 obtain ⟨kx, h⟩ := h
 replace bx := Bx.keep bx kx rfl
 refine qn ?_
 refine ⟨hs_live (Bx.cell bx 0 2 rfl (by kernel_rfl)) (hs_live (Bx.cell bx 1 2 rfl (by kernel_rfl)) (hs_dead rfl (hs_dead rfl hs_nil))), ?_⟩
 refine wpA_loud (rs := [9]) (by kernel_rfl) rfl ?_
 refine mcons (step_of rfl ?_) mnil
 refine wpL_call (vs := [.int .i64 a0.N, .int .i64 a1.N]) tc41 (lcons rfl (lcons rfl lnil)) (cmp_Compare_int.lift h) rfl ?_
 intro r7 hp h
 refine qn ?_
 refine ⟨hs_dead rfl (hs_dead rfl (hs_dead rfl (hs_dead rfl hs_nil))), ?_⟩
 refine wpA_loud (rs := [10]) (by kernel_rfl) rfl ?_
 refine mcons (step_of rfl ?_) mnil
 refine wpL_bsl Try.underlying23 ts3 tz3 rfl rfl rfl (pcons rfl (pcons rfl rfl)) rfl h rfl ?_
 intro b9 hp h
 refine qn ?_
 refine ⟨hs_dead rfl (hs_dead rfl (hs_dead rfl (hs_dead rfl hs_nil))), ?_⟩
 refine wpA_loud (rs := [11]) (by kernel_rfl) rfl ?_
 refine mcons (step_of rfl ?_) mnil
 refine wpL_call (vs := [Sl.enc (Sl.mk (some b9) 2 2)]) tc40 (lcons rfl lnil) (cmp_Or_int.lift h) rfl ?_
 intro r11 hp h
 refine qn ?_
 refine ⟨hs_dead rfl (hs_dead rfl (hs_dead rfl (hs_dead rfl hs_nil))), ?_⟩
 refine qU 12 rfl rfl (fun _ => y_as) ?_
 refine qt (by kernel_rfl) ?_
 refine wpE_ret ?_
 exact body_r r11 rfl (rs_tmp rfl rs_nil) rfl h

end Go.Proofs.L
