/- Each function of the program does what its formula says: printed by a program of the prover's own. -/
import Derived.Test.YtnnlipkoedbnfaaTm
import Derived.Test.YtnnlipkoedbnfaaLa
import Derived.Test.YtnnlipkoedbnfaaTf
import Derived.Test.YtnnlipkoedbnfaaTla
set_option linter.unusedVariables false
namespace Go.Proofs.L
open Go.Lf Go.Crn
set_option maxHeartbeats 4000000 in
theorem join_inode.lift {a0 : S_api_Inode} {a1 : S_api_Inode} {Q : S_api_Inode → Hp → Prop} {hp : Hp} (h : join_inode a0 a1 Q hp) : CallsH Try.prog 28 #[S_api_Inode.enc a0, S_api_Inode.enc a1] hp (Rt S_api_Inode.enc Q) := by
 unfold join_inode at h
 refine calls_of 46 Try.func28 rfl rfl ?_
 refine qs ?_
 refine wpL_boxX (vs := (S_api_Inode.cells a0)) rfl rfl Bx.nil h rfl ?_
 intro b1 hp h bx
 refine wpL_boxX (vs := (S_api_Inode.cells a1)) rfl rfl bx h rfl ?_
 intro b3 hp h bx
 refine wpL_allocX (zs := (S_api_Inode.cells (S_api_Inode.mk (S_api_Stamp.mk 0 0) 0 [] (S_api_Attr.mk (S_api_Stamp.mk 0 0) 0 0) (S_api_Size.mk (S_api_Stamp.mk 0 0) 0) Sl.nil Sl.nil))) tz55 rfl bx h rfl ?_
 intro b5 hp h bx
 refine qn ?_
 refine qe ?_
 refine wpE_draw mixed rfl ?_
 refine qU 0 rfl rfl (fun _ => y_fa fa55_1 rfl) ?_
 refine qT 1 11 (fun h => Hp.cell? h (b1.add 2) = some ((Value.int .i64) a0.Kind)) rfl rfl (Bx.cell bx 2 2 rfl (by kernel_rfl)) (fun _ c => y_ld (v := ((Value.int .i64) a0.Kind)) ts3 rfl c) ?_
 refine qU 2 rfl rfl (fun _ => y_fa fa55_1 rfl) ?_
 refine qT 3 11 (fun h => Hp.cell? h (b3.add 2) = some ((Value.int .i64) a1.Kind)) rfl rfl (Bx.cell bx 1 2 rfl (by kernel_rfl)) (fun _ c => y_ld (v := ((Value.int .i64) a1.Kind)) ts3 rfl c) ?_
 refine qU 4 rfl rfl (fun _ => y_max (lcons rfl (lcons rfl lnil))) ?_
 refine qU 5 rfl rfl (fun _ => y_fa fa55_2 rfl) ?_
 refine qT 6 11 (fun h => Hp.cell? h (b1.add 3) = some (vS a0.Text)) rfl rfl (Bx.cell bx 2 3 rfl (by kernel_rfl)) (fun _ c => y_ld (v := (vS a0.Text)) ts9 rfl c) ?_
 refine qU 7 rfl rfl (fun _ => y_fa fa55_2 rfl) ?_
 refine qT 8 13 (fun h => Hp.cell? h (b3.add 3) = some (vS a1.Text)) rfl rfl (Bx.cell bx 1 3 rfl (by kernel_rfl)) (fun _ c => y_ld (v := (vS a1.Text)) ts9 rfl c) ?_
 refine qU 9 rfl rfl (fun _ => y_smax (lcons rfl (lcons rfl lnil))) ?_
 refine qU 10 rfl rfl (fun _ => y_fa fa55_1 rfl) ?_
 refine wpA_loud (rs := [11]) (by kernel_rfl) rfl ?_
 refine mcons (step_of rfl ?_) mnil
 refine wpL_stX (L' := [(b5, (S_api_Inode.cells (S_api_Inode.mk (S_api_Stamp.mk 0 0) 0 [] (S_api_Attr.mk (S_api_Stamp.mk 0 0) 0 0) (S_api_Size.mk (S_api_Stamp.mk 0 0) 0) Sl.nil Sl.nil))), (b3, (S_api_Inode.cells a1)), (b1, (S_api_Inode.cells (S_api_Inode.mk a0.Id (iMax a0.Kind a1.Kind) a0.Text a0.Attr a0.Size a0.Pieces a0.Xattrs)))]) (i := 2) (off := 2) ts3 rfl rfl rfl bx rfl rfl h (by kernel_rfl) ?_
 intro hp h bx
 refine qn ?_
 refine ⟨hs_live (Bx.cell bx 1 3 rfl (by kernel_rfl)) (hs_dead rfl (hs_dead rfl (hs_dead rfl hs_nil))), ?_⟩
 refine qU 12 rfl rfl (fun _ => y_fa fa55_2 rfl) ?_
 refine wpA_loud (rs := [13]) (by kernel_rfl) rfl ?_
 refine mcons (step_of rfl ?_) mnil
 refine wpL_stX (L' := [(b5, (S_api_Inode.cells (S_api_Inode.mk (S_api_Stamp.mk 0 0) 0 [] (S_api_Attr.mk (S_api_Stamp.mk 0 0) 0 0) (S_api_Size.mk (S_api_Stamp.mk 0 0) 0) Sl.nil Sl.nil))), (b3, (S_api_Inode.cells a1)), (b1, (S_api_Inode.cells (S_api_Inode.mk a0.Id (iMax a0.Kind a1.Kind) (sMax a0.Text a1.Text) a0.Attr a0.Size a0.Pieces a0.Xattrs)))]) (i := 2) (off := 3) ts9 rfl rfl rfl bx rfl rfl h (by kernel_rfl) ?_
 intro hp h bx
 refine qn ?_
 refine ⟨hs_dead rfl (hs_dead rfl (hs_dead rfl (hs_dead rfl hs_nil))), ?_⟩
 refine qt (by kernel_rfl) ?_
 refine qs ?_
 refine qy rfl (y_fa fa55_3 rfl) ?_
 refine qy rfl (y_lda (cs := (S_api_Attr.cells a0.Attr)) ts49 rfl rfl (Bx.row bx 2 4 rfl (by kernel_rfl))) ?_
 refine qy rfl (y_fa fa55_3 rfl) ?_
 refine qy rfl (y_lda (cs := (S_api_Attr.cells a1.Attr)) ts49 rfl rfl (Bx.row bx 1 4 rfl (by kernel_rfl))) ?_
 refine wpL_call (vs := [S_api_Attr.enc a0.Attr, S_api_Attr.enc a1.Attr, .func (.func 43) #[] #[]]) tc42 (lcons rfl (lcons rfl (lcons rfl lnil))) (join_greater_api_Attr.lift (fun x0 x1 Q h hm => ⟨43, [], [], rfl, tc43, join_attrs.lift hm⟩) h) rfl ?_
 intro r9 hp h
 obtain ⟨kx, h⟩ := h
 replace bx := Bx.keep bx kx rfl
 refine qy rfl (y_fa fa55_3 rfl) ?_
 refine wpL_staX (L' := [(b5, (S_api_Inode.cells (S_api_Inode.mk (S_api_Stamp.mk 0 0) 0 [] (S_api_Attr.mk (S_api_Stamp.mk 0 0) 0 0) (S_api_Size.mk (S_api_Stamp.mk 0 0) 0) Sl.nil Sl.nil))), (b3, (S_api_Inode.cells a1)), (b1, (S_api_Inode.cells (S_api_Inode.mk a0.Id (iMax a0.Kind a1.Kind) (sMax a0.Text a1.Text) r9 a0.Size a0.Pieces a0.Xattrs)))]) (i := 2) (off := 4) (cs' := (S_api_Inode.cells (S_api_Inode.mk a0.Id (iMax a0.Kind a1.Kind) (sMax a0.Text a1.Text) r9 a0.Size a0.Pieces a0.Xattrs))) ts49 rfl rfl rfl rfl bx rfl (by kernel_rfl) h (by kernel_rfl) (by kernel_rfl) ?_
 intro hp h bx
 refine qn ?_
 refine qs ?_
 refine qy rfl (y_fa fa55_4 rfl) ?_
 refine qy rfl (y_lda (cs := (S_api_Size.cells a0.Size)) ts51 rfl rfl (Bx.row bx 2 8 rfl (by kernel_rfl))) ?_
 refine qy rfl (y_fa fa55_4 rfl) ?_
 refine qy rfl (y_lda (cs := (S_api_Size.cells a1.Size)) ts51 rfl rfl (Bx.row bx 1 8 rfl (by kernel_rfl))) ?_
 refine wpL_call (vs := [S_api_Size.enc a0.Size, S_api_Size.enc a1.Size, .func (.func 45) #[] #[]]) tc44 (lcons rfl (lcons rfl (lcons rfl lnil))) (join_greater_api_Size.lift (fun x0 x1 Q h hm => ⟨45, [], [], rfl, tc45, join_sizes.lift hm⟩) h) rfl ?_
 intro r12 hp h
 obtain ⟨kx, h⟩ := h
 replace bx := Bx.keep bx kx rfl
 refine qy rfl (y_fa fa55_4 rfl) ?_
 refine wpL_staX (L' := [(b5, (S_api_Inode.cells (S_api_Inode.mk (S_api_Stamp.mk 0 0) 0 [] (S_api_Attr.mk (S_api_Stamp.mk 0 0) 0 0) (S_api_Size.mk (S_api_Stamp.mk 0 0) 0) Sl.nil Sl.nil))), (b3, (S_api_Inode.cells a1)), (b1, (S_api_Inode.cells (S_api_Inode.mk a0.Id (iMax a0.Kind a1.Kind) (sMax a0.Text a1.Text) r9 r12 a0.Pieces a0.Xattrs)))]) (i := 2) (off := 8) (cs' := (S_api_Inode.cells (S_api_Inode.mk a0.Id (iMax a0.Kind a1.Kind) (sMax a0.Text a1.Text) r9 r12 a0.Pieces a0.Xattrs))) ts51 rfl rfl rfl rfl bx rfl (by kernel_rfl) h (by kernel_rfl) (by kernel_rfl) ?_
 intro hp h bx
 refine qn ?_
 refine qs ?_
 refine qy rfl (y_fa fa55_5 rfl) ?_
 refine qy rfl (y_ld (v := (Sl.enc a0.Pieces)) ts52 rfl (Bx.cell bx 2 11 rfl (by kernel_rfl))) ?_
 refine qy rfl (y_fa fa55_5 rfl) ?_
 refine qy rfl (y_ld (v := (Sl.enc a1.Pieces)) ts52 rfl (Bx.cell bx 1 11 rfl (by kernel_rfl))) ?_
 refine wpL_bsl Try.underlying116 ts52 tz52 rfl rfl rfl (pcons rfl (pcons rfl rfl)) rfl h rfl ?_
 intro b15 hp h
 obtain ⟨kx, h⟩ := h
 replace bx := Bx.keep bx kx rfl
 refine wpL_call (vs := [Sl.enc (Sl.mk (some b15) 2 2)]) tc46 (lcons rfl lnil) (slices_Concat_api_Piece_api_Piece.lift h) rfl ?_
 intro r17 hp h
 obtain ⟨kx, h⟩ := h
 replace bx := Bx.keep bx kx rfl
 refine wpL_call (vs := [Sl.enc r17]) tc32 (lcons rfl lnil) (join_listed.lift h) rfl ?_
 intro r19 hp h
 obtain ⟨kx, h⟩ := h
 replace bx := Bx.keep bx kx rfl
 refine qy rfl (y_fa fa55_5 rfl) ?_
 refine wpL_stX (L' := [(b5, (S_api_Inode.cells (S_api_Inode.mk (S_api_Stamp.mk 0 0) 0 [] (S_api_Attr.mk (S_api_Stamp.mk 0 0) 0 0) (S_api_Size.mk (S_api_Stamp.mk 0 0) 0) Sl.nil Sl.nil))), (b3, (S_api_Inode.cells a1)), (b1, (S_api_Inode.cells (S_api_Inode.mk a0.Id (iMax a0.Kind a1.Kind) (sMax a0.Text a1.Text) r9 r12 r19 a0.Xattrs)))]) (i := 2) (off := 11) ts52 rfl rfl rfl bx rfl rfl h (by kernel_rfl) ?_
 intro hp h bx
 refine qn ?_
 refine qs ?_
 refine qy rfl (y_fa fa55_6 rfl) ?_
 refine qy rfl (y_ld (v := (Sl.enc a0.Xattrs)) ts53 rfl (Bx.cell bx 2 12 rfl (by kernel_rfl))) ?_
 refine qy rfl (y_fa fa55_6 rfl) ?_
 refine qy rfl (y_ld (v := (Sl.enc a1.Xattrs)) ts53 rfl (Bx.cell bx 1 12 rfl (by kernel_rfl))) ?_
 refine wpL_bsl Try.underlying118 ts53 tz53 rfl rfl rfl (pcons rfl (pcons rfl rfl)) rfl h rfl ?_
 intro b22 hp h
 obtain ⟨kx, h⟩ := h
 replace bx := Bx.keep (bx.sub (L' := [(b5, (S_api_Inode.cells (S_api_Inode.mk (S_api_Stamp.mk 0 0) 0 [] (S_api_Attr.mk (S_api_Stamp.mk 0 0) 0 0) (S_api_Size.mk (S_api_Stamp.mk 0 0) 0) Sl.nil Sl.nil))), (b1, (S_api_Inode.cells (S_api_Inode.mk a0.Id (iMax a0.Kind a1.Kind) (sMax a0.Text a1.Text) r9 r12 r19 a0.Xattrs)))]) (.cons_cons _ (.cons _ (.cons_cons _ .slnil)))) kx rfl
 refine wpL_call (vs := [Sl.enc (Sl.mk (some b22) 2 2)]) tc47 (lcons rfl lnil) (slices_Concat_api_Xattr_api_Xattr.lift h) rfl ?_
 intro r24 hp h
 obtain ⟨kx, h⟩ := h
 replace bx := Bx.keep bx kx rfl
 refine wpL_call (vs := [Sl.enc r24]) tc33 (lcons rfl lnil) (join_named.lift h) rfl ?_
 intro r26 hp h
 obtain ⟨kx, h⟩ := h
 replace bx := Bx.keep bx kx rfl
 refine qy rfl (y_fa fa55_6 rfl) ?_
 refine wpL_stX (L' := [(b5, (S_api_Inode.cells (S_api_Inode.mk (S_api_Stamp.mk 0 0) 0 [] (S_api_Attr.mk (S_api_Stamp.mk 0 0) 0 0) (S_api_Size.mk (S_api_Stamp.mk 0 0) 0) Sl.nil Sl.nil))), (b1, (S_api_Inode.cells (S_api_Inode.mk a0.Id (iMax a0.Kind a1.Kind) (sMax a0.Text a1.Text) r9 r12 r19 r26)))]) (i := 1) (off := 12) ts53 rfl rfl rfl bx rfl rfl h (by kernel_rfl) ?_
 intro hp h bx
 refine qn ?_
 refine qs ?_
 refine qy rfl (y_lda (cs := (S_api_Inode.cells (S_api_Inode.mk a0.Id (iMax a0.Kind a1.Kind) (sMax a0.Text a1.Text) r9 r12 r19 r26))) ts55 rfl rfl (Bx.row bx 1 0 rfl (by kernel_rfl))) ?_
 refine wpL_staX (L' := [(b5, (S_api_Inode.cells (S_api_Inode.mk a0.Id (iMax a0.Kind a1.Kind) (sMax a0.Text a1.Text) r9 r12 r19 r26))), (b1, (S_api_Inode.cells (S_api_Inode.mk a0.Id (iMax a0.Kind a1.Kind) (sMax a0.Text a1.Text) r9 r12 r19 r26)))]) (i := 0) (off := 0) (cs' := (S_api_Inode.cells (S_api_Inode.mk a0.Id (iMax a0.Kind a1.Kind) (sMax a0.Text a1.Text) r9 r12 r19 r26))) ts55 rfl rfl rfl rfl bx rfl (by kernel_rfl) h (by kernel_rfl) (by kernel_rfl) ?_
 intro hp h bx
 refine qn ?_
 refine wpE_ret ?_
 exact body_r (S_api_Inode.mk a0.Id (iMax a0.Kind a1.Kind) (sMax a0.Text a1.Text) r9 r12 r19 r26) rfl (rs_cella ts55 rfl rfl (Bx.row bx 0 0 rfl (by kernel_rfl)) rs_nil) rfl h

set_option maxHeartbeats 4000000 in
theorem slices_Grow_api_Link_api_Link.lift {a0 : Sl} {a1 : Int} {Q : Sl → Hp → Prop} {hp : Hp} (h : slices_Grow_api_Link_api_Link a0 a1 Q hp) : CallsH Try.prog 70 #[Sl.enc a0, .int .i64 a1] hp (Rt Sl.enc Q) := by
 unfold slices_Grow_api_Link_api_Link at h
 refine calls_of 27 Try.func70 rfl rfl ?_
 refine qs ?_
 refine qa ?_
 refine qn ?_
 obtain ⟨K2, jK2, h⟩ := h
 refine wpE_seqJH K2 (fun (x1 : Unit) (ρ : Env) (hp : Hp) => ρ 0 = Sl.enc a0 ∧ ρ 1 = .int .i64 a1 ∧ True) (fun ρ x1 hp f h => ?_) ?_
 ·obtain ⟨e0, e1, _⟩ := f
  replace h := jK2 x1 hp h
  obtain ⟨K5, jK5, h⟩ := h
  refine wpE_seqJH K5 (fun (x4 : Sl) (ρ : Env) (hp : Hp) => ρ 0 = Sl.enc x4 ∧ True) (fun ρ x4 hp f h => ?_) ?_
  ·obtain ⟨e0, _⟩ := f
   replace h := jK5 x4 hp h
   refine qs ?_
   refine qm ?_
   refine qa ?_
   refine qn ?_
   refine wpE_ret ?_
   exact body_r x4 rfl (rs_tmp e0 rs_nil) rfl h
  ·refine qs ?_
   iterate 2 refine qm ?_
   refine qy rfl (y_capsl Try.underlying31 (lcons e0 lnil)) ?_
   refine qm ?_
   refine qy rfl (y_lensl Try.underlying31 (lcons e0 lnil)) ?_
   refine qy rfl (y_bin rfl rfl (bin_sub _ _ _)) ?_
   refine qy rfl (y_bin e1 rfl (bin_sub _ _ _)) ?_
   refine qa ?_
   refine qn ?_
   refine qs ?_
   refine qm ?_
   refine qy rfl (y_bin rfl rfl (bin_gtr _ _ _)) ?_
   refine qn ?_
   refine qc rfl h (fun h => ?_) fun h => ?_
   ·refine qr ?_
    iterate 2 refine qm ?_
    refine qy rfl (y_capsl Try.underlying31 (lcons e0 lnil)) ?_
    obtain ⟨q70, q71, q72, h⟩ := h
    generalize q79 : Sl.sub _ _ _ _ = v8 at h
    refine qy rfl (ycast_l (y_slsl Try.underlying31 ts57 e0 rfl ⟨_, rfl⟩ q70 q71 q72) q79) ?_
    refine qm ?_
    refine wpL_appz Try.underlying31 Try.underlying3 ts57 ti57 (by decide) tz57 rfl rfl rfl (lcons rfl (lcons rfl lnil)) h rfl ?_
    intro v9 hp h
    refine qm ?_
    refine qy rfl (y_lensl Try.underlying31 (lcons e0 lnil)) ?_
    obtain ⟨q110, q111, q112, h⟩ := h
    generalize q119 : Sl.sub _ _ _ _ = v12 at h
    refine qy rfl (ycast_l (y_slsl Try.underlying31 ts57 rfl rfl ⟨_, rfl⟩ q110 q111 q112) q119) ?_
    refine qa ?_
    refine qn ?_
    exact ⟨v12, ⟨rfl, trivial⟩, h⟩
   ·refine wpE_skip ?_
    exact ⟨a0, ⟨e0, trivial⟩, h⟩
 ·refine qs ?_
  refine qm ?_
  refine qy rfl (y_bin rfl rfl (bin_lss _ _ _)) ?_
  refine qn ?_
  refine qc rfl h (fun h => ?_) fun h => ?_
  ·refine qr ?_
   exact h.elim
  ·refine wpE_skip ?_
   exact ⟨(), ⟨rfl, rfl, trivial⟩, h⟩

set_option maxHeartbeats 4000000 in
theorem slices_Concat_api_Link_api_Link.lift {a0 : Sl} {Q : Sl → Hp → Prop} {hp : Hp} (h : slices_Concat_api_Link_api_Link a0 Q hp) : CallsH Try.prog 48 #[Sl.enc a0] hp (Rt Sl.enc Q) := by
 unfold slices_Concat_api_Link_api_Link at h
 refine calls_of 36 Try.func48 rfl rfl ?_
 refine qs ?_
 refine qa ?_
 refine qn ?_
 refine qs ?_
 refine qa ?_
 refine qn ?_
 refine qe ?_
 refine qs ?_
 refine qm ?_
 refine qy rfl (y_lensl Try.underlying120 (lcons rfl lnil)) ?_
 refine qm ?_
 refine qn ?_
 refine wpE_block ?_
 obtain ⟨I4, m0, h, hI4⟩ := h
 refine wpE_loop (fun m ρ hp => ∃ u1 : Int × Int, (ρ 3 = .int .i64 u1.1 ∧ ρ 11 = .int .i64 u1.2 ∧ ρ 0 = Sl.enc a0 ∧ ρ 9 = Sl.enc a0 ∧ ρ 10 = .int .i64 (a0.len : Int) ∧ True) ∧ I4 m u1 hp) (m := m0) ⟨(0, 0), ⟨rfl, rfl, rfl, rfl, rfl, trivial⟩, h⟩ ?_
 rintro m ρ hp ⟨u1, ⟨e3, e11, e0, e9, e10, _⟩, h⟩
 replace h := hI4 m u1 hp h
 refine qs ?_
 refine qy rfl (y_bin e11 e10 (bin_lss _ _ _)) ?_
 refine qn ?_
 refine qe ?_
 refine qc rfl h (fun h => ?_) fun h => ?_
 ·refine wpE_skip ?_
  obtain ⟨K6, jK6, h⟩ := h
  refine wpE_seqJH K6 (fun (x5 : Int) (ρ : Env) (hp : Hp) => ρ 3 = .int .i64 x5 ∧ ρ 0 = Sl.enc a0 ∧ ρ 9 = Sl.enc a0 ∧ ρ 10 = .int .i64 (a0.len : Int) ∧ ρ 11 = .int .i64 u1.2 ∧ True) (fun ρ x5 hp f h => ?_) ?_
  ·obtain ⟨e3, e0, e9, e10, e11, _⟩ := f
   replace h := jK6 x5 hp h
   refine qr ?_
   refine qy rfl (y_bin e11 rfl (bin_add _ _ _)) ?_
   refine qm ?_
   refine qn ?_
   obtain ⟨m, hm, h⟩ := h
   exact ⟨m, hm, (x5, IntKind.wrap .i64 (u1.2 + (1 : Int))), ⟨e3, rfl, e0, e9, e10, trivial⟩, h⟩
  ·refine wpE_block ?_
   refine qs ?_
   obtain ⟨p80, q9, q90, q91, h⟩ := h
   generalize q99 : p80.add (_ * _) = p8 at h
   refine qy rfl (ycast_p (y_ix Try.underlying120 ts31 e9 e11 q9 q90 q91) q99) ?_
   obtain ⟨v10, c11, h⟩ := h
   refine qy rfl (y_ld ts31 rfl c11) ?_
   refine qa ?_
   refine qn ?_
   refine qs ?_
   iterate 2 refine qm ?_
   refine qy rfl (y_lensl Try.underlying31 (lcons rfl lnil)) ?_
   refine qy rfl (y_bin e3 rfl (bin_add _ _ _)) ?_
   refine qa ?_
   refine qn ?_
   refine qs ?_
   refine qm ?_
   refine qy rfl (y_bin rfl rfl (bin_lss _ _ _)) ?_
   refine qn ?_
   refine qc rfl h (fun h => ?_) fun h => ?_
   ·refine qr ?_
    exact h.elim
   ·refine wpE_skip ?_
    exact ⟨(IntKind.wrap .i64 (u1.1 + (v10.len : Int))), ⟨rfl, e0, e9, e10, e11, trivial⟩, h⟩
 ·refine wpE_exit ?_
  refine qs ?_
  refine qm ?_
  refine wpL_call (vs := [Sl.enc Sl.nil, .int .i64 u1.1]) tc70 (lcons rfl (lcons e3 lnil)) (slices_Grow_api_Link_api_Link.lift h) rfl ?_
  intro r12 hp h
  refine qa ?_
  refine qn ?_
  refine qe ?_
  refine qs ?_
  refine qm ?_
  refine qy rfl (y_lensl Try.underlying120 (lcons e0 lnil)) ?_
  refine qm ?_
  refine qn ?_
  refine wpE_block ?_
  obtain ⟨I17, m0, h, hI17⟩ := h
  refine wpE_loop (fun m ρ hp => ∃ u14 : Sl × Int, (ρ 6 = Sl.enc u14.1 ∧ ρ 27 = .int .i64 u14.2 ∧ ρ 25 = Sl.enc a0 ∧ ρ 26 = .int .i64 (a0.len : Int) ∧ True) ∧ I17 m u14 hp) (m := m0) ⟨(r12, 0), ⟨rfl, rfl, e0, rfl, trivial⟩, h⟩ ?_
  rintro m ρ hp ⟨u14, ⟨e6, e27, e25, e26, _⟩, h⟩
  replace h := hI17 m u14 hp h
  refine qs ?_
  refine qy rfl (y_bin e27 e26 (bin_lss _ _ _)) ?_
  refine qn ?_
  refine qe ?_
  refine qc rfl h (fun h => ?_) fun h => ?_
  ·refine wpE_skip ?_
   refine qb ?_
   refine qs ?_
   obtain ⟨p180, q19, q190, q191, h⟩ := h
   generalize q199 : p180.add (_ * _) = p18 at h
   refine qy rfl (ycast_p (y_ix Try.underlying120 ts31 e25 e27 q19 q190 q191) q199) ?_
   obtain ⟨v20, c21, h⟩ := h
   refine qy rfl (y_ld ts31 rfl c21) ?_
   refine qa ?_
   refine qn ?_
   refine qr ?_
   iterate 2 refine qm ?_
   refine wpL_appsI Try.underlying31 Try.underlying31 ts57 ti57 (by decide) tz57 rfl (lcons e6 (lcons rfl lnil)) h rfl ?_
   intro v22 hp h
   refine qa ?_
   refine qn ?_
   refine qr ?_
   refine qy rfl (y_bin e27 rfl (bin_add _ _ _)) ?_
   refine qm ?_
   refine qn ?_
   obtain ⟨m, hm, h⟩ := h
   exact ⟨m, hm, (v22, IntKind.wrap .i64 (u14.2 + (1 : Int))), ⟨rfl, rfl, e25, e26, trivial⟩, h⟩
  ·refine wpE_exit ?_
   refine qs ?_
   refine qm ?_
   refine qa ?_
   refine qn ?_
   refine wpE_ret ?_
   exact body_r u14.1 rfl (rs_tmp e6 rs_nil) rfl h

set_option maxHeartbeats 4000000 in
theorem slices_insertionSortCmpFunc_api_Link.lift {a0 : Sl} {a1 : Int} {a2 : Int} {a3 : Value} {a3_f : S_api_Link → S_api_Link → (Int → Hp → Prop) → Hp → Prop} (a3_i : ∀ x0 x1 Q h, a3_f x0 x1 Q h → CallsV Try.prog a3 [S_api_Link.enc x0, S_api_Link.enc x1] h (Rt (Value.int .i64) Q)) {Q : Unit → Hp → Prop} {hp : Hp} (h : slices_insertionSortCmpFunc_api_Link a0 a1 a2 a3_f Q hp) : CallsH Try.prog 79 #[Sl.enc a0, .int .i64 a1, .int .i64 a2, a3] hp (Rt (fun _ : Unit => .tuple #[]) Q) := by
 unfold slices_insertionSortCmpFunc_api_Link at h
 refine calls_of 53 Try.func79 rfl rfl ?_
 refine qs ?_
 refine qm ?_
 refine qy rfl (y_bin rfl rfl (bin_add _ _ _)) ?_
 refine qa ?_
 refine qn ?_
 refine wpE_block ?_
 obtain ⟨I4, m0, h, hI4⟩ := h
 refine wpE_loop (fun m ρ hp => ∃ u1 : Int, (ρ 8 = .int .i64 u1 ∧ ρ 0 = Sl.enc a0 ∧ ρ 1 = .int .i64 a1 ∧ ρ 2 = .int .i64 a2 ∧ ρ 3 = a3 ∧ True) ∧ I4 m u1 hp) (m := m0) ⟨(IntKind.wrap .i64 (a1 + (1 : Int))), ⟨rfl, rfl, rfl, rfl, rfl, trivial⟩, h⟩ ?_
 rintro m ρ hp ⟨u1, ⟨e8, e0, e1, e2, e3, _⟩, h⟩
 replace h := hI4 m u1 hp h
 refine qe ?_
 refine qs ?_
 iterate 2 refine qm ?_
 refine qy rfl (y_bin e8 e2 (bin_lss _ _ _)) ?_
 refine qn ?_
 refine qc rfl h (fun h => ?_) fun h => ?_
 ·refine wpE_skip ?_
  refine qb ?_
  refine qs ?_
  refine qm ?_
  refine qa ?_
  refine qn ?_
  refine wpE_block ?_
  obtain ⟨I8, m0, h, hI8⟩ := h
  refine wpE_loop (fun m ρ hp => ∃ u5 : Int, (ρ 9 = .int .i64 u5 ∧ ρ 0 = Sl.enc a0 ∧ ρ 1 = .int .i64 a1 ∧ ρ 2 = .int .i64 a2 ∧ ρ 3 = a3 ∧ ρ 8 = .int .i64 u1 ∧ True) ∧ I8 m u5 hp) (m := m0) ⟨u1, ⟨e8, e0, e1, e2, e3, e8, trivial⟩, h⟩ ?_
  rintro m ρ hp ⟨u5, ⟨e9, e0, e1, e2, e3, e8, _⟩, h⟩
  replace h := hI8 m u5 hp h
  refine qe ?_
  obtain ⟨K10, jK10, h⟩ := h
  refine wpE_seqJH K10 (fun (x9 : Bool) (ρ : Env) (hp : Hp) => ρ 34 = .bool x9 ∧ ρ 0 = Sl.enc a0 ∧ ρ 1 = .int .i64 a1 ∧ ρ 2 = .int .i64 a2 ∧ ρ 3 = a3 ∧ ρ 8 = .int .i64 u1 ∧ ρ 9 = .int .i64 u5 ∧ True) (fun ρ x9 hp f h => ?_) ?_
  ·obtain ⟨e34, e0, e1, e2, e3, e8, e9, _⟩ := f
   replace h := jK10 x9 hp h
   refine qc e34 h (fun h => ?_) fun h => ?_
   ·refine wpE_skip ?_
    refine qb ?_
    refine wpE_draw mixed rfl ?_
    refine qU 0 rfl rfl (fun _ => y_mv) ?_
    refine qU 1 rfl rfl (fun _ => y_mv) ?_
    refine qU 2 rfl rfl (fun _ => y_mv) ?_
    refine qU 3 rfl rfl (fun _ => y_mv) ?_
    refine qU 4 rfl rfl (fun _ => y_bin e9 rfl (bin_sub _ _ _)) ?_
    refine qU 5 rfl rfl (fun _ => y_mv) ?_
    refine qU 6 rfl rfl (fun _ => y_mv) ?_
    refine qU 7 rfl rfl (fun _ => y_bin e9 rfl (bin_sub _ _ _)) ?_
    obtain ⟨p120, q13, q130, q131, h⟩ := h
    generalize q139 : p120.add (_ * _) = p12 at h
    refine qU 8 rfl rfl (fun _ => ycast_p (y_ix Try.underlying31 ts57 e0 rfl q13 q130 q131) q139) ?_
    obtain ⟨v14, c15, h⟩ := h
    refine qT 9 15 (fun h => Row h p12 (S_api_Link.cells v14)) rfl rfl c15 (fun _ c => y_lda ts57 rfl rfl c) ?_
    refine qU 10 rfl rfl (fun _ => y_mv) ?_
    refine qU 11 rfl rfl (fun _ => y_mv) ?_
    obtain ⟨p160, q17, q170, q171, h⟩ := h
    generalize q179 : p160.add (_ * _) = p16 at h
    refine qU 12 rfl rfl (fun _ => ycast_p (y_ix Try.underlying31 ts57 e0 e9 q17 q170 q171) q179) ?_
    obtain ⟨v18, c19, h⟩ := h
    refine qT 13 15 (fun h => Row h p16 (S_api_Link.cells v18)) rfl rfl c19 (fun _ c => y_lda ts57 rfl rfl c) ?_
    obtain ⟨p200, q21, q210, q211, h⟩ := h
    generalize q219 : p200.add (_ * _) = p20 at h
    refine qU 14 rfl rfl (fun _ => ycast_p (y_ix Try.underlying31 ts57 e0 e9 q21 q210 q211) q219) ?_
    refine wpA_loud (rs := [15]) (by kernel_rfl) rfl ?_
    refine mcons (step_of rfl ?_) mnil
    refine wpL_sta ts57 rfl rfl rfl rfl h ?_
    generalize setCells _ _ _ _ = hp
    intro h
    refine qn ?_
    refine ⟨hs_dead rfl (hs_dead rfl hs_nil), ?_⟩
    obtain ⟨p230, q24, q240, q241, h⟩ := h
    generalize q249 : p230.add (_ * _) = p23 at h
    refine qU 16 rfl rfl (fun _ => ycast_p (y_ix Try.underlying31 ts57 e0 rfl q24 q240 q241) q249) ?_
    refine wpA_loud (rs := [17]) (by kernel_rfl) rfl ?_
    refine mcons (step_of rfl ?_) mnil
    refine wpL_sta ts57 rfl rfl rfl rfl h ?_
    generalize setCells _ _ _ _ = hp
    intro h
    refine qn ?_
    refine ⟨hs_dead rfl (hs_dead rfl hs_nil), ?_⟩
    refine qt (by kernel_rfl) ?_
    refine qr ?_
    refine qm ?_
    refine qy rfl (y_bin e9 rfl (bin_sub _ _ _)) ?_
    refine qa ?_
    refine qn ?_
    obtain ⟨m, hm, h⟩ := h
    exact ⟨m, hm, (IntKind.wrap .i64 (u5 - (1 : Int))), ⟨rfl, e0, e1, e2, e3, e8, trivial⟩, h⟩
   ·refine wpE_exit ?_
    refine qr ?_
    refine qm ?_
    refine qy rfl (y_bin e8 rfl (bin_add _ _ _)) ?_
    refine qa ?_
    refine qn ?_
    obtain ⟨m, hm, h⟩ := h
    exact ⟨m, hm, (IntKind.wrap .i64 (u1 + (1 : Int))), ⟨rfl, e0, e1, e2, e3, trivial⟩, h⟩
  ·refine wpE_draw mixed rfl ?_
   refine qU 0 rfl rfl (fun _ => y_mv) ?_
   refine qU 1 rfl rfl (fun _ => y_mv) ?_
   refine qU 2 rfl rfl (fun _ => y_bin e9 e1 (bin_gtr _ _ _)) ?_
   refine qU 3 rfl rfl (fun _ => y_mv) ?_
   refine wpA_split h (fun g26 h => ?_) (fun g26 h => ?_)
   ·refine qV 4 rfl rfl g26 (fun _ => y_mv) ?_
    refine qV 5 rfl rfl g26 (fun _ => y_mv) ?_
    refine qV 6 rfl rfl g26 (fun _ => y_mv) ?_
    obtain ⟨p270, q28, q280, q281, h⟩ := h
    generalize q289 : p270.add (_ * _) = p27 at h
    refine qV 7 rfl rfl g26 (fun _ => ycast_p (y_ix Try.underlying31 ts57 e0 e9 q28 q280 q281) q289) ?_
    obtain ⟨v29, c30, h⟩ := h
    refine wpA_take (i := 8) (kk := 14) (fun h => Row h p27 (S_api_Link.cells v29)) rfl rfl rfl (by kernel_rfl) (by kernel_rfl) (wt_bool rfl rfl rfl (vbool rfl g26) rfl) (fun _ _ _ _ h => h) c30 (fun _ c => y_lda ts57 rfl rfl c) ?_
    refine qV 9 rfl rfl g26 (fun _ => y_mv) ?_
    refine qV 10 rfl rfl g26 (fun _ => y_mv) ?_
    refine qV 11 rfl rfl g26 (fun _ => y_bin e9 rfl (bin_sub _ _ _)) ?_
    obtain ⟨p310, q32, q320, q321, h⟩ := h
    generalize q329 : p310.add (_ * _) = p31 at h
    refine qV 12 rfl rfl g26 (fun _ => ycast_p (y_ix Try.underlying31 ts57 e0 rfl q32 q320 q321) q329) ?_
    obtain ⟨v33, c34, h⟩ := h
    refine wpA_take (i := 13) (kk := 14) (fun h => Row h p31 (S_api_Link.cells v33)) rfl rfl rfl (by kernel_rfl) (by kernel_rfl) (wt_bool rfl rfl rfl (vbool rfl g26) rfl) (fun _ _ _ _ h => h) c34 (fun _ c => y_lda ts57 rfl rfl c) ?_
    refine wpA_loud (rs := [14]) (by kernel_rfl) rfl ?_
    refine mcons (step_of rfl ?_) mnil
    refine qg rfl g26 ?_
    refine wpL_callv e3 (lcons rfl (lcons rfl lnil)) (a3_i _ _ _ _ h) rfl ?_
    intro r35 hp h
    refine qn ?_
    refine ⟨hs_dead rfl (hs_dead rfl hs_nil), ?_⟩
    refine qV 15 rfl rfl g26 (fun _ => y_bin rfl rfl (bin_lss _ _ _)) ?_
    refine qU 16 rfl rfl (fun _ => y_pickt (vbool rfl g26)) ?_
    refine qt (by kernel_rfl) ?_
    exact ⟨(decide (r35 < (0 : Int))), ⟨rfl, e0, e1, e2, e3, e8, e9, trivial⟩, h⟩
   ·refine qW 4 rfl rfl g26 ?_
    refine qW 5 rfl rfl g26 ?_
    refine qW 6 rfl rfl g26 ?_
    refine qW 7 rfl rfl g26 ?_
    refine qW 8 rfl rfl g26 ?_
    refine qW 9 rfl rfl g26 ?_
    refine qW 10 rfl rfl g26 ?_
    refine qW 11 rfl rfl g26 ?_
    refine qW 12 rfl rfl g26 ?_
    refine qW 13 rfl rfl g26 ?_
    refine qW 14 rfl rfl g26 ?_
    refine qW 15 rfl rfl g26 ?_
    refine qU 16 rfl rfl (fun _ => y_pickf (vbool rfl g26)) ?_
    refine qt (by kernel_rfl) ?_
    exact ⟨false, ⟨rfl, e0, e1, e2, e3, e8, e9, trivial⟩, h⟩
 ·refine wpE_exit ?_
  exact body_n () rfl rs_nil rfl h

set_option maxHeartbeats 4000000 in
theorem slices_swapRangeCmpFunc_api_Link.lift {a0 : Sl} {a1 : Int} {a2 : Int} {a3 : Int} {a4 : Value} {a4_f : S_api_Link → S_api_Link → (Int → Hp → Prop) → Hp → Prop} (a4_i : ∀ x0 x1 Q h, a4_f x0 x1 Q h → CallsV Try.prog a4 [S_api_Link.enc x0, S_api_Link.enc x1] h (Rt (Value.int .i64) Q)) {Q : Unit → Hp → Prop} {hp : Hp} (h : slices_swapRangeCmpFunc_api_Link a0 a1 a2 a3 a4_f Q hp) : CallsH Try.prog 90 #[Sl.enc a0, .int .i64 a1, .int .i64 a2, .int .i64 a3, a4] hp (Rt (fun _ : Unit => .tuple #[]) Q) := by
 unfold slices_swapRangeCmpFunc_api_Link at h
 refine calls_of 38 Try.func90 rfl rfl ?_
 refine qs ?_
 refine qa ?_
 refine qn ?_
 refine wpE_block ?_
 obtain ⟨I4, m0, h, hI4⟩ := h
 refine wpE_loop (fun m ρ hp => ∃ u1 : Int, (ρ 10 = .int .i64 u1 ∧ ρ 0 = Sl.enc a0 ∧ ρ 1 = .int .i64 a1 ∧ ρ 2 = .int .i64 a2 ∧ ρ 3 = .int .i64 a3 ∧ True) ∧ I4 m u1 hp) (m := m0) ⟨0, ⟨rfl, rfl, rfl, rfl, rfl, trivial⟩, h⟩ ?_
 rintro m ρ hp ⟨u1, ⟨e10, e0, e1, e2, e3, _⟩, h⟩
 replace h := hI4 m u1 hp h
 refine qe ?_
 refine qs ?_
 iterate 2 refine qm ?_
 refine qy rfl (y_bin e10 e3 (bin_lss _ _ _)) ?_
 refine qn ?_
 refine qc rfl h (fun h => ?_) fun h => ?_
 ·refine wpE_skip ?_
  refine qb ?_
  refine wpE_draw mixed rfl ?_
  refine qU 0 rfl rfl (fun _ => y_mv) ?_
  refine qU 1 rfl rfl (fun _ => y_mv) ?_
  refine qU 2 rfl rfl (fun _ => y_mv) ?_
  refine qU 3 rfl rfl (fun _ => y_bin e1 e10 (bin_add _ _ _)) ?_
  refine qU 4 rfl rfl (fun _ => y_mv) ?_
  refine qU 5 rfl rfl (fun _ => y_mv) ?_
  refine qU 6 rfl rfl (fun _ => y_mv) ?_
  refine qU 7 rfl rfl (fun _ => y_bin e2 e10 (bin_add _ _ _)) ?_
  refine qU 8 rfl rfl (fun _ => y_mv) ?_
  refine qU 9 rfl rfl (fun _ => y_mv) ?_
  refine qU 10 rfl rfl (fun _ => y_mv) ?_
  refine qU 11 rfl rfl (fun _ => y_bin e2 e10 (bin_add _ _ _)) ?_
  obtain ⟨p50, q6, q60, q61, h⟩ := h
  generalize q69 : p50.add (_ * _) = p5 at h
  refine qU 12 rfl rfl (fun _ => ycast_p (y_ix Try.underlying31 ts57 e0 rfl q6 q60 q61) q69) ?_
  obtain ⟨v7, c8, h⟩ := h
  refine qT 13 21 (fun h => Row h p5 (S_api_Link.cells v7)) rfl rfl c8 (fun _ c => y_lda ts57 rfl rfl c) ?_
  refine qU 14 rfl rfl (fun _ => y_mv) ?_
  refine qU 15 rfl rfl (fun _ => y_mv) ?_
  refine qU 16 rfl rfl (fun _ => y_mv) ?_
  refine qU 17 rfl rfl (fun _ => y_bin e1 e10 (bin_add _ _ _)) ?_
  obtain ⟨p90, q10, q100, q101, h⟩ := h
  generalize q109 : p90.add (_ * _) = p9 at h
  refine qU 18 rfl rfl (fun _ => ycast_p (y_ix Try.underlying31 ts57 e0 rfl q10 q100 q101) q109) ?_
  obtain ⟨v11, c12, h⟩ := h
  refine qT 19 21 (fun h => Row h p9 (S_api_Link.cells v11)) rfl rfl c12 (fun _ c => y_lda ts57 rfl rfl c) ?_
  obtain ⟨p130, q14, q140, q141, h⟩ := h
  generalize q149 : p130.add (_ * _) = p13 at h
  refine qU 20 rfl rfl (fun _ => ycast_p (y_ix Try.underlying31 ts57 e0 rfl q14 q140 q141) q149) ?_
  refine wpA_loud (rs := [21]) (by kernel_rfl) rfl ?_
  refine mcons (step_of rfl ?_) mnil
  refine wpL_sta ts57 rfl rfl rfl rfl h ?_
  generalize setCells _ _ _ _ = hp
  intro h
  refine qn ?_
  refine ⟨hs_dead rfl (hs_dead rfl hs_nil), ?_⟩
  obtain ⟨p160, q17, q170, q171, h⟩ := h
  generalize q179 : p160.add (_ * _) = p16 at h
  refine qU 22 rfl rfl (fun _ => ycast_p (y_ix Try.underlying31 ts57 e0 rfl q17 q170 q171) q179) ?_
  refine wpA_loud (rs := [23]) (by kernel_rfl) rfl ?_
  refine mcons (step_of rfl ?_) mnil
  refine wpL_sta ts57 rfl rfl rfl rfl h ?_
  generalize setCells _ _ _ _ = hp
  intro h
  refine qn ?_
  refine ⟨hs_dead rfl (hs_dead rfl hs_nil), ?_⟩
  refine qt (by kernel_rfl) ?_
  refine qr ?_
  refine qm ?_
  refine qy rfl (y_bin e10 rfl (bin_add _ _ _)) ?_
  refine qa ?_
  refine qn ?_
  obtain ⟨m, hm, h⟩ := h
  exact ⟨m, hm, (IntKind.wrap .i64 (u1 + (1 : Int))), ⟨rfl, e0, e1, e2, e3, trivial⟩, h⟩
 ·refine wpE_exit ?_
  exact body_n () rfl rs_nil rfl h

set_option maxHeartbeats 4000000 in
theorem slices_rotateCmpFunc_api_Link.lift {a0 : Sl} {a1 : Int} {a2 : Int} {a3 : Int} {a4 : Value} {a4_f : S_api_Link → S_api_Link → (Int → Hp → Prop) → Hp → Prop} (a4_i : ∀ x0 x1 Q h, a4_f x0 x1 Q h → CallsV Try.prog a4 [S_api_Link.enc x0, S_api_Link.enc x1] h (Rt (Value.int .i64) Q)) {Q : Unit → Hp → Prop} {hp : Hp} (h : slices_rotateCmpFunc_api_Link a0 a1 a2 a3 a4_f Q hp) : CallsH Try.prog 84 #[Sl.enc a0, .int .i64 a1, .int .i64 a2, .int .i64 a3, a4] hp (Rt (fun _ : Unit => .tuple #[]) Q) := by
 unfold slices_rotateCmpFunc_api_Link at h
 refine calls_of 58 Try.func84 rfl rfl ?_
 refine qs ?_
 iterate 2 refine qm ?_
 refine qy rfl (y_bin rfl rfl (bin_sub _ _ _)) ?_
 refine qa ?_
 refine qn ?_
 refine qs ?_
 iterate 2 refine qm ?_
 refine qy rfl (y_bin rfl rfl (bin_sub _ _ _)) ?_
 refine qa ?_
 refine qn ?_
 refine qb ?_
 obtain ⟨I4, m0, h, hI4⟩ := h
 refine wpE_loop (fun m ρ hp => ∃ u1 : Int × Int, (ρ 10 = .int .i64 u1.1 ∧ ρ 11 = .int .i64 u1.2 ∧ ρ 0 = Sl.enc a0 ∧ ρ 2 = .int .i64 a2 ∧ ρ 4 = a4 ∧ True) ∧ I4 m u1 hp) (m := m0) ⟨(IntKind.wrap .i64 (a2 - a1), IntKind.wrap .i64 (a3 - a2)), ⟨rfl, rfl, rfl, rfl, rfl, trivial⟩, h⟩ ?_
 rintro m ρ hp ⟨u1, ⟨e10, e11, e0, e2, e4, _⟩, h⟩
 replace h := hI4 m u1 hp h
 refine qe ?_
 refine qs ?_
 iterate 2 refine qm ?_
 refine qy rfl (y_bin e10 e11 (bin_neq _ _ _)) ?_
 refine qn ?_
 refine qc rfl h (fun h => ?_) fun h => ?_
 ·refine wpE_skip ?_
  refine wpE_block ?_
  refine qs ?_
  iterate 2 refine qm ?_
  refine qy rfl (y_bin e10 e11 (bin_gtr _ _ _)) ?_
  refine qn ?_
  refine qc rfl h (fun h => ?_) fun h => ?_
  ·refine qs ?_
   iterate 3 refine qm ?_
   refine qy rfl (y_bin e2 e10 (bin_sub _ _ _)) ?_
   iterate 3 refine qm ?_
   refine wpL_call (vs := [Sl.enc a0, .int .i64 (IntKind.wrap .i64 (a2 - u1.1)), .int .i64 a2, .int .i64 u1.2, a4]) tc90 (lcons e0 (lcons rfl (lcons e2 (lcons e11 (lcons e4 lnil))))) (slices_swapRangeCmpFunc_api_Link.lift a4_i h) rfl ?_
   intro r5 hp h
   refine qn ?_
   refine qr ?_
   iterate 2 refine qm ?_
   refine qy rfl (y_bin e10 e11 (bin_sub _ _ _)) ?_
   refine qa ?_
   refine qn ?_
   obtain ⟨m, hm, h⟩ := h
   exact ⟨m, hm, (IntKind.wrap .i64 (u1.1 - u1.2), u1.2), ⟨rfl, e11, e0, e2, e4, trivial⟩, h⟩
  ·refine qs ?_
   iterate 3 refine qm ?_
   refine qy rfl (y_bin e2 e10 (bin_sub _ _ _)) ?_
   iterate 2 refine qm ?_
   refine qy rfl (y_bin e2 e11 (bin_add _ _ _)) ?_
   refine qm ?_
   refine qy rfl (y_bin rfl e10 (bin_sub _ _ _)) ?_
   iterate 2 refine qm ?_
   refine wpL_call (vs := [Sl.enc a0, .int .i64 (IntKind.wrap .i64 (a2 - u1.1)), .int .i64 (IntKind.wrap .i64 ((IntKind.wrap .i64 (a2 + u1.2)) - u1.1)), .int .i64 u1.1, a4]) tc90 (lcons e0 (lcons rfl (lcons rfl (lcons e10 (lcons e4 lnil))))) (slices_swapRangeCmpFunc_api_Link.lift a4_i h) rfl ?_
   intro r7 hp h
   refine qn ?_
   refine qr ?_
   iterate 2 refine qm ?_
   refine qy rfl (y_bin e11 e10 (bin_sub _ _ _)) ?_
   refine qa ?_
   refine qn ?_
   obtain ⟨m, hm, h⟩ := h
   exact ⟨m, hm, (u1.1, IntKind.wrap .i64 (u1.2 - u1.1)), ⟨e10, rfl, e0, e2, e4, trivial⟩, h⟩
 ·refine wpE_exit ?_
  refine qr ?_
  iterate 3 refine qm ?_
  refine qy rfl (y_bin e2 e10 (bin_sub _ _ _)) ?_
  iterate 3 refine qm ?_
  refine wpL_call (vs := [Sl.enc a0, .int .i64 (IntKind.wrap .i64 (a2 - u1.1)), .int .i64 a2, .int .i64 u1.1, a4]) tc90 (lcons e0 (lcons rfl (lcons e2 (lcons e10 (lcons e4 lnil))))) (slices_swapRangeCmpFunc_api_Link.lift a4_i h) rfl ?_
  intro r9 hp h
  refine qn ?_
  exact body_n () rfl rs_nil rfl h

set_option maxHeartbeats 4000000 in
theorem slices_symMergeCmpFunc_api_Link.lift : ∀ (k : Nat) {a0 : Sl} {a1 : Int} {a2 : Int} {a3 : Int} {a4 : Value} {a4_f : S_api_Link → S_api_Link → (Int → Hp → Prop) → Hp → Prop} (a4_i : ∀ x0 x1 Q h, a4_f x0 x1 Q h → CallsV Try.prog a4 [S_api_Link.enc x0, S_api_Link.enc x1] h (Rt (Value.int .i64) Q)) {Q : Unit → Hp → Prop} {hp : Hp} (_ : slices_symMergeCmpFunc_api_Link k a0 a1 a2 a3 a4_f Q hp), CallsH Try.prog 80 #[Sl.enc a0, .int .i64 a1, .int .i64 a2, .int .i64 a3, a4] hp (Rt (fun _ : Unit => .tuple #[]) Q) := by
 intro k
 induction k with
 | zero =>
  intros
  rename_i h
  exact (h : False).elim
 | succ k ih_slices_symMergeCmpFunc_api_Link =>
  intro a0 a1 a2 a3 a4 a4_f a4_i Q hp h
  unfold slices_symMergeCmpFunc_api_Link at h
  refine calls_of 220 Try.func80 rfl rfl ?_
  refine qe ?_
  refine qs ?_
  iterate 2 refine qm ?_
  refine qy rfl (y_bin rfl rfl (bin_sub _ _ _)) ?_
  refine qy rfl (y_bin rfl rfl (bin_eql _ _ _)) ?_
  refine qn ?_
  refine qc rfl h (fun h => ?_) fun h => ?_
  ·refine qs ?_
   refine qm ?_
   refine qa ?_
   refine qn ?_
   refine qs ?_
   refine qm ?_
   refine qa ?_
   refine qn ?_
   refine qb ?_
   obtain ⟨I4, m0, h, hI4⟩ := h
   refine wpE_loop (fun m ρ hp => ∃ u1 : Int × Int, (ρ 10 = .int .i64 u1.1 ∧ ρ 11 = .int .i64 u1.2 ∧ ρ 0 = Sl.enc a0 ∧ ρ 1 = .int .i64 a1 ∧ ρ 4 = a4 ∧ True) ∧ I4 m u1 hp) (m := m0) ⟨(a2, a3), ⟨rfl, rfl, rfl, rfl, rfl, trivial⟩, h⟩ ?_
   rintro m ρ hp ⟨u1, ⟨e10, e11, e0, e1, e4, _⟩, h⟩
   replace h := hI4 m u1 hp h
   refine qe ?_
   refine qs ?_
   iterate 2 refine qm ?_
   refine qy rfl (y_bin e10 e11 (bin_lss _ _ _)) ?_
   refine qn ?_
   refine qc rfl h (fun h => ?_) fun h => ?_
   ·refine wpE_skip ?_
    refine wpE_block ?_
    refine qs ?_
    iterate 2 refine qm ?_
    refine qy rfl (y_bin e10 e11 (bin_add _ _ _)) ?_
    refine qy rfl (y_cvi Try.underlying3 Try.underlying36 rfl) ?_
    refine qy rfl (y_bin rfl rfl (bin_shr _ _ _ (by decide))) ?_
    refine qy rfl (y_cvi Try.underlying36 Try.underlying3 rfl) ?_
    refine qa ?_
    refine qn ?_
    refine qe ?_
    refine wpE_draw mixed rfl ?_
    refine qU 0 rfl rfl (fun _ => y_mv) ?_
    refine qU 1 rfl rfl (fun _ => y_mv) ?_
    refine qU 2 rfl rfl (fun _ => y_mv) ?_
    obtain ⟨p50, q6, q60, q61, h⟩ := h
    generalize q69 : p50.add (_ * _) = p5 at h
    refine qU 3 rfl rfl (fun _ => ycast_p (y_ix Try.underlying31 ts57 e0 rfl q6 q60 q61) q69) ?_
    obtain ⟨v7, c8, h⟩ := h
    refine qT 4 9 (fun h => Row h p5 (S_api_Link.cells v7)) rfl rfl c8 (fun _ c => y_lda ts57 rfl rfl c) ?_
    refine qU 5 rfl rfl (fun _ => y_mv) ?_
    refine qU 6 rfl rfl (fun _ => y_mv) ?_
    obtain ⟨p90, q10, q100, q101, h⟩ := h
    generalize q109 : p90.add (_ * _) = p9 at h
    refine qU 7 rfl rfl (fun _ => ycast_p (y_ix Try.underlying31 ts57 e0 e1 q10 q100 q101) q109) ?_
    obtain ⟨v11, c12, h⟩ := h
    refine qT 8 9 (fun h => Row h p9 (S_api_Link.cells v11)) rfl rfl c12 (fun _ c => y_lda ts57 rfl rfl c) ?_
    refine wpA_loud (rs := [9]) (by kernel_rfl) rfl ?_
    refine mcons (step_of rfl ?_) mnil
    refine wpL_callv e4 (lcons rfl (lcons rfl lnil)) (a4_i _ _ _ _ h) rfl ?_
    intro r13 hp h
    refine qn ?_
    refine ⟨hs_dead rfl (hs_dead rfl hs_nil), ?_⟩
    refine qU 10 rfl rfl (fun _ => y_bin rfl rfl (bin_lss _ _ _)) ?_
    refine qt (by kernel_rfl) ?_
    refine qc rfl h (fun h => ?_) fun h => ?_
    ·refine qr ?_
     refine qm ?_
     refine qy rfl (y_bin rfl rfl (bin_add _ _ _)) ?_
     refine qa ?_
     refine qn ?_
     obtain ⟨m, hm, h⟩ := h
     exact ⟨m, hm, (IntKind.wrap .i64 ((IntKind.wrap .i64 (iShr .u64 (IntKind.wrap .u64 (IntKind.wrap .i64 (u1.1 + u1.2))) (1 : Int))) + (1 : Int)), u1.2), ⟨rfl, e11, e0, e1, e4, trivial⟩, h⟩
    ·refine qr ?_
     refine qm ?_
     refine qa ?_
     refine qn ?_
     obtain ⟨m, hm, h⟩ := h
     exact ⟨m, hm, (u1.1, IntKind.wrap .i64 (iShr .u64 (IntKind.wrap .u64 (IntKind.wrap .i64 (u1.1 + u1.2))) (1 : Int))), ⟨e10, rfl, e0, e1, e4, trivial⟩, h⟩
   ·refine wpE_exit ?_
    refine qe ?_
    refine qs ?_
    refine qm ?_
    refine qa ?_
    refine qn ?_
    refine wpE_block ?_
    obtain ⟨I18, m0, h, hI18⟩ := h
    refine wpE_loop (fun m ρ hp => ∃ u15 : Int, (ρ 13 = .int .i64 u15 ∧ ρ 0 = Sl.enc a0 ∧ ρ 10 = .int .i64 u1.1 ∧ True) ∧ I18 m u15 hp) (m := m0) ⟨a1, ⟨e1, e0, e10, trivial⟩, h⟩ ?_
    rintro m ρ hp ⟨u15, ⟨e13, e0, e10, _⟩, h⟩
    replace h := hI18 m u15 hp h
    refine qe ?_
    refine qs ?_
    iterate 2 refine qm ?_
    refine qy rfl (y_bin e10 rfl (bin_sub _ _ _)) ?_
    refine qy rfl (y_bin e13 rfl (bin_lss _ _ _)) ?_
    refine qn ?_
    refine qc rfl h (fun h => ?_) fun h => ?_
    ·refine wpE_skip ?_
     refine qb ?_
     refine wpE_draw mixed rfl ?_
     refine qU 0 rfl rfl (fun _ => y_mv) ?_
     refine qU 1 rfl rfl (fun _ => y_mv) ?_
     refine qU 2 rfl rfl (fun _ => y_mv) ?_
     refine qU 3 rfl rfl (fun _ => y_mv) ?_
     refine qU 4 rfl rfl (fun _ => y_bin e13 rfl (bin_add _ _ _)) ?_
     refine qU 5 rfl rfl (fun _ => y_mv) ?_
     refine qU 6 rfl rfl (fun _ => y_mv) ?_
     refine qU 7 rfl rfl (fun _ => y_bin e13 rfl (bin_add _ _ _)) ?_
     obtain ⟨p190, q20, q200, q201, h⟩ := h
     generalize q209 : p190.add (_ * _) = p19 at h
     refine qU 8 rfl rfl (fun _ => ycast_p (y_ix Try.underlying31 ts57 e0 rfl q20 q200 q201) q209) ?_
     obtain ⟨v21, c22, h⟩ := h
     refine qT 9 15 (fun h => Row h p19 (S_api_Link.cells v21)) rfl rfl c22 (fun _ c => y_lda ts57 rfl rfl c) ?_
     refine qU 10 rfl rfl (fun _ => y_mv) ?_
     refine qU 11 rfl rfl (fun _ => y_mv) ?_
     obtain ⟨p230, q24, q240, q241, h⟩ := h
     generalize q249 : p230.add (_ * _) = p23 at h
     refine qU 12 rfl rfl (fun _ => ycast_p (y_ix Try.underlying31 ts57 e0 e13 q24 q240 q241) q249) ?_
     obtain ⟨v25, c26, h⟩ := h
     refine qT 13 15 (fun h => Row h p23 (S_api_Link.cells v25)) rfl rfl c26 (fun _ c => y_lda ts57 rfl rfl c) ?_
     obtain ⟨p270, q28, q280, q281, h⟩ := h
     generalize q289 : p270.add (_ * _) = p27 at h
     refine qU 14 rfl rfl (fun _ => ycast_p (y_ix Try.underlying31 ts57 e0 e13 q28 q280 q281) q289) ?_
     refine wpA_loud (rs := [15]) (by kernel_rfl) rfl ?_
     refine mcons (step_of rfl ?_) mnil
     refine wpL_sta ts57 rfl rfl rfl rfl h ?_
     generalize setCells _ _ _ _ = hp
     intro h
     refine qn ?_
     refine ⟨hs_dead rfl (hs_dead rfl hs_nil), ?_⟩
     obtain ⟨p300, q31, q310, q311, h⟩ := h
     generalize q319 : p300.add (_ * _) = p30 at h
     refine qU 16 rfl rfl (fun _ => ycast_p (y_ix Try.underlying31 ts57 e0 rfl q31 q310 q311) q319) ?_
     refine wpA_loud (rs := [17]) (by kernel_rfl) rfl ?_
     refine mcons (step_of rfl ?_) mnil
     refine wpL_sta ts57 rfl rfl rfl rfl h ?_
     generalize setCells _ _ _ _ = hp
     intro h
     refine qn ?_
     refine ⟨hs_dead rfl (hs_dead rfl hs_nil), ?_⟩
     refine qt (by kernel_rfl) ?_
     refine qr ?_
     refine qm ?_
     refine qy rfl (y_bin e13 rfl (bin_add _ _ _)) ?_
     refine qa ?_
     refine qn ?_
     obtain ⟨m, hm, h⟩ := h
     exact ⟨m, hm, (IntKind.wrap .i64 (u15 + (1 : Int))), ⟨rfl, e0, e10, trivial⟩, h⟩
    ·refine wpE_exit ?_
     refine wpE_ret ?_
     exact body_r () rfl rs_nil rfl h
  ·refine wpE_skip ?_
   refine qe ?_
   refine qs ?_
   iterate 2 refine qm ?_
   refine qy rfl (y_bin rfl rfl (bin_sub _ _ _)) ?_
   refine qy rfl (y_bin rfl rfl (bin_eql _ _ _)) ?_
   refine qn ?_
   refine qc rfl h (fun h => ?_) fun h => ?_
   ·refine qs ?_
    refine qm ?_
    refine qa ?_
    refine qn ?_
    refine qs ?_
    refine qm ?_
    refine qa ?_
    refine qn ?_
    refine qb ?_
    obtain ⟨I36, m0, h, hI36⟩ := h
    refine wpE_loop (fun m ρ hp => ∃ u33 : Int × Int, (ρ 14 = .int .i64 u33.1 ∧ ρ 15 = .int .i64 u33.2 ∧ ρ 0 = Sl.enc a0 ∧ ρ 2 = .int .i64 a2 ∧ ρ 4 = a4 ∧ True) ∧ I36 m u33 hp) (m := m0) ⟨(a1, a2), ⟨rfl, rfl, rfl, rfl, rfl, trivial⟩, h⟩ ?_
    rintro m ρ hp ⟨u33, ⟨e14, e15, e0, e2, e4, _⟩, h⟩
    replace h := hI36 m u33 hp h
    refine qe ?_
    refine qs ?_
    iterate 2 refine qm ?_
    refine qy rfl (y_bin e14 e15 (bin_lss _ _ _)) ?_
    refine qn ?_
    refine qc rfl h (fun h => ?_) fun h => ?_
    ·refine wpE_skip ?_
     refine wpE_block ?_
     refine qs ?_
     iterate 2 refine qm ?_
     refine qy rfl (y_bin e14 e15 (bin_add _ _ _)) ?_
     refine qy rfl (y_cvi Try.underlying3 Try.underlying36 rfl) ?_
     refine qy rfl (y_bin rfl rfl (bin_shr _ _ _ (by decide))) ?_
     refine qy rfl (y_cvi Try.underlying36 Try.underlying3 rfl) ?_
     refine qa ?_
     refine qn ?_
     refine qe ?_
     refine wpE_draw mixed rfl ?_
     refine qU 0 rfl rfl (fun _ => y_mv) ?_
     refine qU 1 rfl rfl (fun _ => y_mv) ?_
     refine qU 2 rfl rfl (fun _ => y_mv) ?_
     obtain ⟨p370, q38, q380, q381, h⟩ := h
     generalize q389 : p370.add (_ * _) = p37 at h
     refine qU 3 rfl rfl (fun _ => ycast_p (y_ix Try.underlying31 ts57 e0 e2 q38 q380 q381) q389) ?_
     obtain ⟨v39, c40, h⟩ := h
     refine qT 4 9 (fun h => Row h p37 (S_api_Link.cells v39)) rfl rfl c40 (fun _ c => y_lda ts57 rfl rfl c) ?_
     refine qU 5 rfl rfl (fun _ => y_mv) ?_
     refine qU 6 rfl rfl (fun _ => y_mv) ?_
     obtain ⟨p410, q42, q420, q421, h⟩ := h
     generalize q429 : p410.add (_ * _) = p41 at h
     refine qU 7 rfl rfl (fun _ => ycast_p (y_ix Try.underlying31 ts57 e0 rfl q42 q420 q421) q429) ?_
     obtain ⟨v43, c44, h⟩ := h
     refine qT 8 9 (fun h => Row h p41 (S_api_Link.cells v43)) rfl rfl c44 (fun _ c => y_lda ts57 rfl rfl c) ?_
     refine wpA_loud (rs := [9]) (by kernel_rfl) rfl ?_
     refine mcons (step_of rfl ?_) mnil
     refine wpL_callv e4 (lcons rfl (lcons rfl lnil)) (a4_i _ _ _ _ h) rfl ?_
     intro r45 hp h
     refine qn ?_
     refine ⟨hs_dead rfl (hs_dead rfl hs_nil), ?_⟩
     refine qU 10 rfl rfl (fun _ => y_bin rfl rfl (bin_lss _ _ _)) ?_
     refine qU 11 rfl rfl (fun _ => y_not rfl) ?_
     refine qt (by kernel_rfl) ?_
     refine qc rfl h (fun h => ?_) fun h => ?_
     ·refine qr ?_
      refine qm ?_
      refine qy rfl (y_bin rfl rfl (bin_add _ _ _)) ?_
      refine qa ?_
      refine qn ?_
      obtain ⟨m, hm, h⟩ := h
      exact ⟨m, hm, (IntKind.wrap .i64 ((IntKind.wrap .i64 (iShr .u64 (IntKind.wrap .u64 (IntKind.wrap .i64 (u33.1 + u33.2))) (1 : Int))) + (1 : Int)), u33.2), ⟨rfl, e15, e0, e2, e4, trivial⟩, h⟩
     ·refine qr ?_
      refine qm ?_
      refine qa ?_
      refine qn ?_
      obtain ⟨m, hm, h⟩ := h
      exact ⟨m, hm, (u33.1, IntKind.wrap .i64 (iShr .u64 (IntKind.wrap .u64 (IntKind.wrap .i64 (u33.1 + u33.2))) (1 : Int))), ⟨e14, rfl, e0, e2, e4, trivial⟩, h⟩
    ·refine wpE_exit ?_
     refine qe ?_
     refine qs ?_
     refine qm ?_
     refine qa ?_
     refine qn ?_
     refine wpE_block ?_
     obtain ⟨I50, m0, h, hI50⟩ := h
     refine wpE_loop (fun m ρ hp => ∃ u47 : Int, (ρ 17 = .int .i64 u47 ∧ ρ 0 = Sl.enc a0 ∧ ρ 14 = .int .i64 u33.1 ∧ True) ∧ I50 m u47 hp) (m := m0) ⟨a2, ⟨e2, e0, e14, trivial⟩, h⟩ ?_
     rintro m ρ hp ⟨u47, ⟨e17, e0, e14, _⟩, h⟩
     replace h := hI50 m u47 hp h
     refine qe ?_
     refine qs ?_
     iterate 2 refine qm ?_
     refine qy rfl (y_bin e17 e14 (bin_gtr _ _ _)) ?_
     refine qn ?_
     refine qc rfl h (fun h => ?_) fun h => ?_
     ·refine wpE_skip ?_
      refine qb ?_
      refine wpE_draw mixed rfl ?_
      refine qU 0 rfl rfl (fun _ => y_mv) ?_
      refine qU 1 rfl rfl (fun _ => y_mv) ?_
      refine qU 2 rfl rfl (fun _ => y_mv) ?_
      refine qU 3 rfl rfl (fun _ => y_mv) ?_
      refine qU 4 rfl rfl (fun _ => y_bin e17 rfl (bin_sub _ _ _)) ?_
      refine qU 5 rfl rfl (fun _ => y_mv) ?_
      refine qU 6 rfl rfl (fun _ => y_mv) ?_
      refine qU 7 rfl rfl (fun _ => y_bin e17 rfl (bin_sub _ _ _)) ?_
      obtain ⟨p510, q52, q520, q521, h⟩ := h
      generalize q529 : p510.add (_ * _) = p51 at h
      refine qU 8 rfl rfl (fun _ => ycast_p (y_ix Try.underlying31 ts57 e0 rfl q52 q520 q521) q529) ?_
      obtain ⟨v53, c54, h⟩ := h
      refine qT 9 15 (fun h => Row h p51 (S_api_Link.cells v53)) rfl rfl c54 (fun _ c => y_lda ts57 rfl rfl c) ?_
      refine qU 10 rfl rfl (fun _ => y_mv) ?_
      refine qU 11 rfl rfl (fun _ => y_mv) ?_
      obtain ⟨p550, q56, q560, q561, h⟩ := h
      generalize q569 : p550.add (_ * _) = p55 at h
      refine qU 12 rfl rfl (fun _ => ycast_p (y_ix Try.underlying31 ts57 e0 e17 q56 q560 q561) q569) ?_
      obtain ⟨v57, c58, h⟩ := h
      refine qT 13 15 (fun h => Row h p55 (S_api_Link.cells v57)) rfl rfl c58 (fun _ c => y_lda ts57 rfl rfl c) ?_
      obtain ⟨p590, q60, q600, q601, h⟩ := h
      generalize q609 : p590.add (_ * _) = p59 at h
      refine qU 14 rfl rfl (fun _ => ycast_p (y_ix Try.underlying31 ts57 e0 e17 q60 q600 q601) q609) ?_
      refine wpA_loud (rs := [15]) (by kernel_rfl) rfl ?_
      refine mcons (step_of rfl ?_) mnil
      refine wpL_sta ts57 rfl rfl rfl rfl h ?_
      generalize setCells _ _ _ _ = hp
      intro h
      refine qn ?_
      refine ⟨hs_dead rfl (hs_dead rfl hs_nil), ?_⟩
      obtain ⟨p620, q63, q630, q631, h⟩ := h
      generalize q639 : p620.add (_ * _) = p62 at h
      refine qU 16 rfl rfl (fun _ => ycast_p (y_ix Try.underlying31 ts57 e0 rfl q63 q630 q631) q639) ?_
      refine wpA_loud (rs := [17]) (by kernel_rfl) rfl ?_
      refine mcons (step_of rfl ?_) mnil
      refine wpL_sta ts57 rfl rfl rfl rfl h ?_
      generalize setCells _ _ _ _ = hp
      intro h
      refine qn ?_
      refine ⟨hs_dead rfl (hs_dead rfl hs_nil), ?_⟩
      refine qt (by kernel_rfl) ?_
      refine qr ?_
      refine qm ?_
      refine qy rfl (y_bin e17 rfl (bin_sub _ _ _)) ?_
      refine qa ?_
      refine qn ?_
      obtain ⟨m, hm, h⟩ := h
      exact ⟨m, hm, (IntKind.wrap .i64 (u47 - (1 : Int))), ⟨rfl, e0, e14, trivial⟩, h⟩
     ·refine wpE_exit ?_
      refine wpE_ret ?_
      exact body_r () rfl rs_nil rfl h
   ·refine wpE_skip ?_
    refine qs ?_
    iterate 2 refine qm ?_
    refine qy rfl (y_bin rfl rfl (bin_add _ _ _)) ?_
    refine qy rfl (y_cvi Try.underlying3 Try.underlying36 rfl) ?_
    refine qy rfl (y_bin rfl rfl (bin_shr _ _ _ (by decide))) ?_
    refine qy rfl (y_cvi Try.underlying36 Try.underlying3 rfl) ?_
    refine qa ?_
    refine qn ?_
    refine qs ?_
    iterate 2 refine qm ?_
    refine qy rfl (y_bin rfl rfl (bin_add _ _ _)) ?_
    refine qa ?_
    refine qn ?_
    refine qs ?_
    iterate 2 refine qa ?_
    refine qn ?_
    obtain ⟨K66, jK66, h⟩ := h
    refine wpE_seqJH K66 (fun (x65 : Int × Int) (ρ : Env) (hp : Hp) => ρ 20 = .int .i64 x65.1 ∧ ρ 21 = .int .i64 x65.2 ∧ ρ 0 = Sl.enc a0 ∧ ρ 1 = .int .i64 a1 ∧ ρ 2 = .int .i64 a2 ∧ ρ 3 = .int .i64 a3 ∧ ρ 4 = a4 ∧ ρ 18 = .int .i64 (IntKind.wrap .i64 (iShr .u64 (IntKind.wrap .u64 (IntKind.wrap .i64 (a1 + a3))) (1 : Int))) ∧ ρ 19 = .int .i64 (IntKind.wrap .i64 ((IntKind.wrap .i64 (iShr .u64 (IntKind.wrap .u64 (IntKind.wrap .i64 (a1 + a3))) (1 : Int))) + a2)) ∧ True) (fun ρ x65 hp f h => ?_) ?_
    ·obtain ⟨e20, e21, e0, e1, e2, e3, e4, e18, e19, _⟩ := f
     replace h := jK66 x65 hp h
     refine qs ?_
     refine qm ?_
     refine qy rfl (y_bin e19 rfl (bin_sub _ _ _)) ?_
     refine qa ?_
     refine qn ?_
     refine qb ?_
     obtain ⟨I71, m0, h, hI71⟩ := h
     refine wpE_loop (fun m ρ hp => ∃ u68 : Int × Int, (ρ 20 = .int .i64 u68.1 ∧ ρ 21 = .int .i64 u68.2 ∧ ρ 0 = Sl.enc a0 ∧ ρ 1 = .int .i64 a1 ∧ ρ 2 = .int .i64 a2 ∧ ρ 3 = .int .i64 a3 ∧ ρ 4 = a4 ∧ ρ 18 = .int .i64 (IntKind.wrap .i64 (iShr .u64 (IntKind.wrap .u64 (IntKind.wrap .i64 (a1 + a3))) (1 : Int))) ∧ ρ 19 = .int .i64 (IntKind.wrap .i64 ((IntKind.wrap .i64 (iShr .u64 (IntKind.wrap .u64 (IntKind.wrap .i64 (a1 + a3))) (1 : Int))) + a2)) ∧ ρ 22 = .int .i64 (IntKind.wrap .i64 ((IntKind.wrap .i64 ((IntKind.wrap .i64 (iShr .u64 (IntKind.wrap .u64 (IntKind.wrap .i64 (a1 + a3))) (1 : Int))) + a2)) - (1 : Int))) ∧ True) ∧ I71 m u68 hp) (m := m0) ⟨(x65.1, x65.2), ⟨e20, e21, e0, e1, e2, e3, e4, e18, e19, rfl, trivial⟩, h⟩ ?_
     rintro m ρ hp ⟨u68, ⟨e20, e21, e0, e1, e2, e3, e4, e18, e19, e22, _⟩, h⟩
     replace h := hI71 m u68 hp h
     refine qe ?_
     refine qs ?_
     iterate 2 refine qm ?_
     refine qy rfl (y_bin e20 e21 (bin_lss _ _ _)) ?_
     refine qn ?_
     refine qc rfl h (fun h => ?_) fun h => ?_
     ·refine wpE_skip ?_
      refine wpE_block ?_
      refine qs ?_
      iterate 2 refine qm ?_
      refine qy rfl (y_bin e20 e21 (bin_add _ _ _)) ?_
      refine qy rfl (y_cvi Try.underlying3 Try.underlying36 rfl) ?_
      refine qy rfl (y_bin rfl rfl (bin_shr _ _ _ (by decide))) ?_
      refine qy rfl (y_cvi Try.underlying36 Try.underlying3 rfl) ?_
      refine qa ?_
      refine qn ?_
      refine qe ?_
      refine wpE_draw mixed rfl ?_
      refine qU 0 rfl rfl (fun _ => y_mv) ?_
      refine qU 1 rfl rfl (fun _ => y_mv) ?_
      refine qU 2 rfl rfl (fun _ => y_mv) ?_
      refine qU 3 rfl rfl (fun _ => y_mv) ?_
      refine qU 4 rfl rfl (fun _ => y_bin e22 rfl (bin_sub _ _ _)) ?_
      obtain ⟨p720, q73, q730, q731, h⟩ := h
      generalize q739 : p720.add (_ * _) = p72 at h
      refine qU 5 rfl rfl (fun _ => ycast_p (y_ix Try.underlying31 ts57 e0 rfl q73 q730 q731) q739) ?_
      obtain ⟨v74, c75, h⟩ := h
      refine qT 6 11 (fun h => Row h p72 (S_api_Link.cells v74)) rfl rfl c75 (fun _ c => y_lda ts57 rfl rfl c) ?_
      refine qU 7 rfl rfl (fun _ => y_mv) ?_
      refine qU 8 rfl rfl (fun _ => y_mv) ?_
      obtain ⟨p760, q77, q770, q771, h⟩ := h
      generalize q779 : p760.add (_ * _) = p76 at h
      refine qU 9 rfl rfl (fun _ => ycast_p (y_ix Try.underlying31 ts57 e0 rfl q77 q770 q771) q779) ?_
      obtain ⟨v78, c79, h⟩ := h
      refine qT 10 11 (fun h => Row h p76 (S_api_Link.cells v78)) rfl rfl c79 (fun _ c => y_lda ts57 rfl rfl c) ?_
      refine wpA_loud (rs := [11]) (by kernel_rfl) rfl ?_
      refine mcons (step_of rfl ?_) mnil
      refine wpL_callv e4 (lcons rfl (lcons rfl lnil)) (a4_i _ _ _ _ h) rfl ?_
      intro r80 hp h
      refine qn ?_
      refine ⟨hs_dead rfl (hs_dead rfl hs_nil), ?_⟩
      refine qU 12 rfl rfl (fun _ => y_bin rfl rfl (bin_lss _ _ _)) ?_
      refine qU 13 rfl rfl (fun _ => y_not rfl) ?_
      refine qt (by kernel_rfl) ?_
      refine qc rfl h (fun h => ?_) fun h => ?_
      ·refine qr ?_
       refine qm ?_
       refine qy rfl (y_bin rfl rfl (bin_add _ _ _)) ?_
       refine qa ?_
       refine qn ?_
       obtain ⟨m, hm, h⟩ := h
       exact ⟨m, hm, (IntKind.wrap .i64 ((IntKind.wrap .i64 (iShr .u64 (IntKind.wrap .u64 (IntKind.wrap .i64 (u68.1 + u68.2))) (1 : Int))) + (1 : Int)), u68.2), ⟨rfl, e21, e0, e1, e2, e3, e4, e18, e19, e22, trivial⟩, h⟩
      ·refine qr ?_
       refine qm ?_
       refine qa ?_
       refine qn ?_
       obtain ⟨m, hm, h⟩ := h
       exact ⟨m, hm, (u68.1, IntKind.wrap .i64 (iShr .u64 (IntKind.wrap .u64 (IntKind.wrap .i64 (u68.1 + u68.2))) (1 : Int))), ⟨e20, rfl, e0, e1, e2, e3, e4, e18, e19, e22, trivial⟩, h⟩
     ·refine wpE_exit ?_
      refine qs ?_
      iterate 2 refine qm ?_
      refine qy rfl (y_bin e19 e20 (bin_sub _ _ _)) ?_
      refine qa ?_
      refine qn ?_
      obtain ⟨K83, jK83, h⟩ := h
      refine wpE_seqJH K83 (fun (x82 : Unit) (ρ : Env) (hp : Hp) => ρ 0 = Sl.enc a0 ∧ ρ 1 = .int .i64 a1 ∧ ρ 3 = .int .i64 a3 ∧ ρ 4 = a4 ∧ ρ 18 = .int .i64 (IntKind.wrap .i64 (iShr .u64 (IntKind.wrap .u64 (IntKind.wrap .i64 (a1 + a3))) (1 : Int))) ∧ ρ 20 = .int .i64 u68.1 ∧ ρ 24 = .int .i64 (IntKind.wrap .i64 ((IntKind.wrap .i64 ((IntKind.wrap .i64 (iShr .u64 (IntKind.wrap .u64 (IntKind.wrap .i64 (a1 + a3))) (1 : Int))) + a2)) - u68.1)) ∧ True) (fun ρ x82 hp f h => ?_) ?_
      ·obtain ⟨e0, e1, e3, e4, e18, e20, e24, _⟩ := f
       replace h := jK83 x82 hp h
       obtain ⟨K86, jK86, h⟩ := h
       refine wpE_seqJH K86 (fun (x85 : Unit) (ρ : Env) (hp : Hp) => ρ 0 = Sl.enc a0 ∧ ρ 3 = .int .i64 a3 ∧ ρ 4 = a4 ∧ ρ 18 = .int .i64 (IntKind.wrap .i64 (iShr .u64 (IntKind.wrap .u64 (IntKind.wrap .i64 (a1 + a3))) (1 : Int))) ∧ ρ 24 = .int .i64 (IntKind.wrap .i64 ((IntKind.wrap .i64 ((IntKind.wrap .i64 (iShr .u64 (IntKind.wrap .u64 (IntKind.wrap .i64 (a1 + a3))) (1 : Int))) + a2)) - u68.1)) ∧ True) (fun ρ x85 hp f h => ?_) ?_
       ·obtain ⟨e0, e3, e4, e18, e24, _⟩ := f
        replace h := jK86 x85 hp h
        obtain ⟨K89, jK89, h⟩ := h
        refine wpE_seqJH K89 (fun (x88 : Bool) (ρ : Env) (hp : Hp) => ρ 213 = .bool x88 ∧ ρ 0 = Sl.enc a0 ∧ ρ 3 = .int .i64 a3 ∧ ρ 4 = a4 ∧ ρ 18 = .int .i64 (IntKind.wrap .i64 (iShr .u64 (IntKind.wrap .u64 (IntKind.wrap .i64 (a1 + a3))) (1 : Int))) ∧ ρ 24 = .int .i64 (IntKind.wrap .i64 ((IntKind.wrap .i64 ((IntKind.wrap .i64 (iShr .u64 (IntKind.wrap .u64 (IntKind.wrap .i64 (a1 + a3))) (1 : Int))) + a2)) - u68.1)) ∧ True) (fun ρ x88 hp f h => ?_) ?_
        ·obtain ⟨e213, e0, e3, e4, e18, e24, _⟩ := f
         replace h := jK89 x88 hp h
         refine qc e213 h (fun h => ?_) fun h => ?_
         ·refine qr ?_
          iterate 5 refine qm ?_
          refine wpL_call (vs := [Sl.enc a0, .int .i64 (IntKind.wrap .i64 (iShr .u64 (IntKind.wrap .u64 (IntKind.wrap .i64 (a1 + a3))) (1 : Int))), .int .i64 (IntKind.wrap .i64 ((IntKind.wrap .i64 ((IntKind.wrap .i64 (iShr .u64 (IntKind.wrap .u64 (IntKind.wrap .i64 (a1 + a3))) (1 : Int))) + a2)) - u68.1)), .int .i64 a3, a4]) tc80 (lcons e0 (lcons e18 (lcons e24 (lcons e3 (lcons e4 lnil))))) (ih_slices_symMergeCmpFunc_api_Link a4_i h) rfl ?_
          intro r91 hp h
          refine qn ?_
          exact body_n () rfl rs_nil rfl h
         ·refine wpE_skip ?_
          exact body_n () rfl rs_nil rfl h
        ·refine qr ?_
         iterate 2 refine qm ?_
         refine qy rfl (y_bin e18 e24 (bin_lss _ _ _)) ?_
         refine qm ?_
         refine wpL_split h (fun g93 h => ?_) (fun g93 h => ?_)
         ·refine qg rfl g93 ?_
          refine qm ?_
          refine qg rfl g93 ?_
          refine qm ?_
          refine qg rfl g93 ?_
          refine qy rfl (y_bin e24 e3 (bin_lss _ _ _)) ?_
          refine qy rfl (y_pickt (vbool rfl g93)) ?_
          refine qn ?_
          exact ⟨(decide ((IntKind.wrap .i64 ((IntKind.wrap .i64 ((IntKind.wrap .i64 (iShr .u64 (IntKind.wrap .u64 (IntKind.wrap .i64 (a1 + a3))) (1 : Int))) + a2)) - u68.1)) < a3)), ⟨rfl, e0, e3, e4, e18, e24, trivial⟩, h⟩
         ·refine qp rfl g93 ?_
          iterate 2 refine qp rfl g93 ?_
          refine qy rfl (y_pickf (vbool rfl g93)) ?_
          refine qn ?_
          exact ⟨false, ⟨rfl, e0, e3, e4, e18, e24, trivial⟩, h⟩
       ·obtain ⟨K95, jK95, h⟩ := h
        refine wpE_seqJH K95 (fun (x94 : Bool) (ρ : Env) (hp : Hp) => ρ 199 = .bool x94 ∧ ρ 0 = Sl.enc a0 ∧ ρ 1 = .int .i64 a1 ∧ ρ 3 = .int .i64 a3 ∧ ρ 4 = a4 ∧ ρ 18 = .int .i64 (IntKind.wrap .i64 (iShr .u64 (IntKind.wrap .u64 (IntKind.wrap .i64 (a1 + a3))) (1 : Int))) ∧ ρ 20 = .int .i64 u68.1 ∧ ρ 24 = .int .i64 (IntKind.wrap .i64 ((IntKind.wrap .i64 ((IntKind.wrap .i64 (iShr .u64 (IntKind.wrap .u64 (IntKind.wrap .i64 (a1 + a3))) (1 : Int))) + a2)) - u68.1)) ∧ True) (fun ρ x94 hp f h => ?_) ?_
        ·obtain ⟨e199, e0, e1, e3, e4, e18, e20, e24, _⟩ := f
         replace h := jK95 x94 hp h
         refine qc e199 h (fun h => ?_) fun h => ?_
         ·refine qr ?_
          iterate 5 refine qm ?_
          refine wpL_call (vs := [Sl.enc a0, .int .i64 a1, .int .i64 u68.1, .int .i64 (IntKind.wrap .i64 (iShr .u64 (IntKind.wrap .u64 (IntKind.wrap .i64 (a1 + a3))) (1 : Int))), a4]) tc80 (lcons e0 (lcons e1 (lcons e20 (lcons e18 (lcons e4 lnil))))) (ih_slices_symMergeCmpFunc_api_Link a4_i h) rfl ?_
          intro r97 hp h
          refine qn ?_
          exact ⟨(), ⟨e0, e3, e4, e18, e24, trivial⟩, h⟩
         ·refine wpE_skip ?_
          exact ⟨(), ⟨e0, e3, e4, e18, e24, trivial⟩, h⟩
        ·refine qr ?_
         iterate 2 refine qm ?_
         refine qy rfl (y_bin e1 e20 (bin_lss _ _ _)) ?_
         refine qm ?_
         refine wpL_split h (fun g99 h => ?_) (fun g99 h => ?_)
         ·refine qg rfl g99 ?_
          refine qm ?_
          refine qg rfl g99 ?_
          refine qm ?_
          refine qg rfl g99 ?_
          refine qy rfl (y_bin e20 e18 (bin_lss _ _ _)) ?_
          refine qy rfl (y_pickt (vbool rfl g99)) ?_
          refine qn ?_
          exact ⟨(decide (u68.1 < (IntKind.wrap .i64 (iShr .u64 (IntKind.wrap .u64 (IntKind.wrap .i64 (a1 + a3))) (1 : Int))))), ⟨rfl, e0, e1, e3, e4, e18, e20, e24, trivial⟩, h⟩
         ·refine qp rfl g99 ?_
          iterate 2 refine qp rfl g99 ?_
          refine qy rfl (y_pickf (vbool rfl g99)) ?_
          refine qn ?_
          exact ⟨false, ⟨rfl, e0, e1, e3, e4, e18, e20, e24, trivial⟩, h⟩
      ·obtain ⟨K101, jK101, h⟩ := h
       refine wpE_seqJH K101 (fun (x100 : Bool) (ρ : Env) (hp : Hp) => ρ 185 = .bool x100 ∧ ρ 0 = Sl.enc a0 ∧ ρ 1 = .int .i64 a1 ∧ ρ 2 = .int .i64 a2 ∧ ρ 3 = .int .i64 a3 ∧ ρ 4 = a4 ∧ ρ 18 = .int .i64 (IntKind.wrap .i64 (iShr .u64 (IntKind.wrap .u64 (IntKind.wrap .i64 (a1 + a3))) (1 : Int))) ∧ ρ 20 = .int .i64 u68.1 ∧ ρ 24 = .int .i64 (IntKind.wrap .i64 ((IntKind.wrap .i64 ((IntKind.wrap .i64 (iShr .u64 (IntKind.wrap .u64 (IntKind.wrap .i64 (a1 + a3))) (1 : Int))) + a2)) - u68.1)) ∧ True) (fun ρ x100 hp f h => ?_) ?_
       ·obtain ⟨e185, e0, e1, e2, e3, e4, e18, e20, e24, _⟩ := f
        replace h := jK101 x100 hp h
        refine qc e185 h (fun h => ?_) fun h => ?_
        ·refine qr ?_
         iterate 5 refine qm ?_
         refine wpL_call (vs := [Sl.enc a0, .int .i64 u68.1, .int .i64 a2, .int .i64 (IntKind.wrap .i64 ((IntKind.wrap .i64 ((IntKind.wrap .i64 (iShr .u64 (IntKind.wrap .u64 (IntKind.wrap .i64 (a1 + a3))) (1 : Int))) + a2)) - u68.1)), a4]) tc84 (lcons e0 (lcons e20 (lcons e2 (lcons e24 (lcons e4 lnil))))) (slices_rotateCmpFunc_api_Link.lift a4_i h) rfl ?_
         intro r103 hp h
         refine qn ?_
         exact ⟨(), ⟨e0, e1, e3, e4, e18, e20, e24, trivial⟩, h⟩
        ·refine wpE_skip ?_
         exact ⟨(), ⟨e0, e1, e3, e4, e18, e20, e24, trivial⟩, h⟩
       ·refine qr ?_
        iterate 2 refine qm ?_
        refine qy rfl (y_bin e20 e2 (bin_lss _ _ _)) ?_
        refine qm ?_
        refine wpL_split h (fun g105 h => ?_) (fun g105 h => ?_)
        ·refine qg rfl g105 ?_
         refine qm ?_
         refine qg rfl g105 ?_
         refine qm ?_
         refine qg rfl g105 ?_
         refine qy rfl (y_bin e2 rfl (bin_lss _ _ _)) ?_
         refine qy rfl (y_pickt (vbool rfl g105)) ?_
         refine qn ?_
         exact ⟨(decide (a2 < (IntKind.wrap .i64 ((IntKind.wrap .i64 ((IntKind.wrap .i64 (iShr .u64 (IntKind.wrap .u64 (IntKind.wrap .i64 (a1 + a3))) (1 : Int))) + a2)) - u68.1)))), ⟨rfl, e0, e1, e2, e3, e4, e18, e20, rfl, trivial⟩, h⟩
        ·refine qp rfl g105 ?_
         iterate 2 refine qp rfl g105 ?_
         refine qy rfl (y_pickf (vbool rfl g105)) ?_
         refine qn ?_
         exact ⟨false, ⟨rfl, e0, e1, e2, e3, e4, e18, e20, rfl, trivial⟩, h⟩
    ·refine qs ?_
     iterate 2 refine qm ?_
     refine qy rfl (y_bin rfl rfl (bin_gtr _ _ _)) ?_
     refine qn ?_
     refine qc rfl h (fun h => ?_) fun h => ?_
     ·refine qs ?_
      iterate 2 refine qm ?_
      refine qy rfl (y_bin rfl rfl (bin_sub _ _ _)) ?_
      refine qa ?_
      refine qn ?_
      refine qr ?_
      refine qm ?_
      refine qa ?_
      refine qn ?_
      exact ⟨(IntKind.wrap .i64 ((IntKind.wrap .i64 ((IntKind.wrap .i64 (iShr .u64 (IntKind.wrap .u64 (IntKind.wrap .i64 (a1 + a3))) (1 : Int))) + a2)) - a3), IntKind.wrap .i64 (iShr .u64 (IntKind.wrap .u64 (IntKind.wrap .i64 (a1 + a3))) (1 : Int))), ⟨rfl, rfl, rfl, rfl, rfl, rfl, rfl, rfl, rfl, trivial⟩, h⟩
     ·refine qs ?_
      refine qm ?_
      refine qa ?_
      refine qn ?_
      refine qr ?_
      refine qm ?_
      refine qa ?_
      refine qn ?_
      exact ⟨(a1, a2), ⟨rfl, rfl, rfl, rfl, rfl, rfl, rfl, rfl, rfl, trivial⟩, h⟩

set_option maxHeartbeats 4000000 in
theorem slices_stableCmpFunc_api_Link.lift {a0 : Sl} {a1 : Int} {a2 : Value} {a2_f : S_api_Link → S_api_Link → (Int → Hp → Prop) → Hp → Prop} (a2_i : ∀ x0 x1 Q h, a2_f x0 x1 Q h → CallsV Try.prog a2 [S_api_Link.enc x0, S_api_Link.enc x1] h (Rt (Value.int .i64) Q)) {Q : Unit → Hp → Prop} {hp : Hp} (h : slices_stableCmpFunc_api_Link a0 a1 a2_f Q hp) : CallsH Try.prog 71 #[Sl.enc a0, .int .i64 a1, a2] hp (Rt (fun _ : Unit => .tuple #[]) Q) := by
 unfold slices_stableCmpFunc_api_Link at h
 refine calls_of 63 Try.func71 rfl rfl ?_
 refine qs ?_
 refine qa ?_
 refine qn ?_
 refine qs ?_
 refine qm ?_
 iterate 2 refine qa ?_
 refine qn ?_
 refine qb ?_
 obtain ⟨I4, m0, h, hI4⟩ := h
 refine wpE_loop (fun m ρ hp => ∃ u1 : Int × Int, (ρ 7 = .int .i64 u1.1 ∧ ρ 8 = .int .i64 u1.2 ∧ ρ 0 = Sl.enc a0 ∧ ρ 1 = .int .i64 a1 ∧ ρ 2 = a2 ∧ ρ 6 = .int .i64 20 ∧ True) ∧ I4 m u1 hp) (m := m0) ⟨(0, 20), ⟨rfl, rfl, rfl, rfl, rfl, rfl, trivial⟩, h⟩ ?_
 rintro m ρ hp ⟨u1, ⟨e7, e8, e0, e1, e2, e6, _⟩, h⟩
 replace h := hI4 m u1 hp h
 refine qe ?_
 refine qs ?_
 iterate 2 refine qm ?_
 refine qy rfl (y_bin e8 e1 (bin_leq _ _ _)) ?_
 refine qn ?_
 refine qc rfl h (fun h => ?_) fun h => ?_
 ·refine wpE_skip ?_
  refine wpE_block ?_
  refine qs ?_
  iterate 4 refine qm ?_
  refine wpL_call (vs := [Sl.enc a0, .int .i64 u1.1, .int .i64 u1.2, a2]) tc79 (lcons e0 (lcons e7 (lcons e8 (lcons e2 lnil)))) (slices_insertionSortCmpFunc_api_Link.lift a2_i h) rfl ?_
  intro r5 hp h
  refine qn ?_
  refine qs ?_
  refine qm ?_
  refine qa ?_
  refine qn ?_
  refine qr ?_
  iterate 2 refine qm ?_
  refine qy rfl (y_bin e8 e6 (bin_add _ _ _)) ?_
  refine qa ?_
  refine qn ?_
  obtain ⟨m, hm, h⟩ := h
  exact ⟨m, hm, (u1.2, IntKind.wrap .i64 (u1.2 + (20 : Int))), ⟨e8, rfl, e0, e1, e2, e6, trivial⟩, h⟩
 ·refine wpE_exit ?_
  refine qs ?_
  iterate 4 refine qm ?_
  refine wpL_call (vs := [Sl.enc a0, .int .i64 u1.1, .int .i64 a1, a2]) tc79 (lcons e0 (lcons e7 (lcons e1 (lcons e2 lnil)))) (slices_insertionSortCmpFunc_api_Link.lift a2_i h) rfl ?_
  intro r7 hp h
  refine qn ?_
  refine wpE_block ?_
  obtain ⟨I12, m0, h, hI12⟩ := h
  refine wpE_loop (fun m ρ hp => ∃ u9 : Int, (ρ 6 = .int .i64 u9 ∧ ρ 0 = Sl.enc a0 ∧ ρ 1 = .int .i64 a1 ∧ ρ 2 = a2 ∧ True) ∧ I12 m u9 hp) (m := m0) ⟨20, ⟨e6, e0, e1, e2, trivial⟩, h⟩ ?_
  rintro m ρ hp ⟨u9, ⟨e6, e0, e1, e2, _⟩, h⟩
  replace h := hI12 m u9 hp h
  refine qe ?_
  refine qs ?_
  iterate 2 refine qm ?_
  refine qy rfl (y_bin e6 e1 (bin_lss _ _ _)) ?_
  refine qn ?_
  refine qc rfl h (fun h => ?_) fun h => ?_
  ·refine wpE_skip ?_
   refine wpE_block ?_
   refine qs ?_
   refine qm ?_
   refine qy rfl (y_bin rfl e6 (bin_mul _ _ _)) ?_
   iterate 2 refine qa ?_
   refine qn ?_
   refine qb ?_
   obtain ⟨I16, m0, h, hI16⟩ := h
   refine wpE_loop (fun m ρ hp => ∃ u13 : Int × Int, (ρ 7 = .int .i64 u13.1 ∧ ρ 8 = .int .i64 u13.2 ∧ ρ 0 = Sl.enc a0 ∧ ρ 1 = .int .i64 a1 ∧ ρ 2 = a2 ∧ ρ 6 = .int .i64 u9 ∧ True) ∧ I16 m u13 hp) (m := m0) ⟨(0, IntKind.wrap .i64 ((2 : Int) * u9)), ⟨rfl, rfl, e0, e1, e2, e6, trivial⟩, h⟩ ?_
   rintro m ρ hp ⟨u13, ⟨e7, e8, e0, e1, e2, e6, _⟩, h⟩
   replace h := hI16 m u13 hp h
   refine qe ?_
   refine qs ?_
   iterate 2 refine qm ?_
   refine qy rfl (y_bin e8 e1 (bin_leq _ _ _)) ?_
   refine qn ?_
   refine qc rfl h (fun h => ?_) fun h => ?_
   ·refine wpE_skip ?_
    refine wpE_block ?_
    refine qs ?_
    iterate 4 refine qm ?_
    refine qy rfl (y_bin e7 e6 (bin_add _ _ _)) ?_
    iterate 2 refine qm ?_
    obtain ⟨k0, h⟩ := h
    refine wpL_call (vs := [Sl.enc a0, .int .i64 u13.1, .int .i64 (IntKind.wrap .i64 (u13.1 + u9)), .int .i64 u13.2, a2]) tc80 (lcons e0 (lcons e7 (lcons rfl (lcons e8 (lcons e2 lnil))))) (slices_symMergeCmpFunc_api_Link.lift k0 a2_i h) rfl ?_
    intro r17 hp h
    refine qn ?_
    refine qs ?_
    refine qm ?_
    refine qa ?_
    refine qn ?_
    refine qr ?_
    iterate 2 refine qm ?_
    refine qy rfl (y_bin rfl e6 (bin_mul _ _ _)) ?_
    refine qy rfl (y_bin e8 rfl (bin_add _ _ _)) ?_
    refine qa ?_
    refine qn ?_
    obtain ⟨m, hm, h⟩ := h
    exact ⟨m, hm, (u13.2, IntKind.wrap .i64 (u13.2 + (IntKind.wrap .i64 ((2 : Int) * u9)))), ⟨e8, rfl, e0, e1, e2, e6, trivial⟩, h⟩
   ·refine wpE_exit ?_
    obtain ⟨K20, jK20, h⟩ := h
    refine wpE_seqJH K20 (fun (x19 : Unit) (ρ : Env) (hp : Hp) => ρ 0 = Sl.enc a0 ∧ ρ 1 = .int .i64 a1 ∧ ρ 2 = a2 ∧ ρ 6 = .int .i64 u9 ∧ True) (fun ρ x19 hp f h => ?_) ?_
    ·obtain ⟨e0, e1, e2, e6, _⟩ := f
     replace h := jK20 x19 hp h
     refine qr ?_
     refine qm ?_
     refine qy rfl (y_bin e6 rfl (bin_mul _ _ _)) ?_
     refine qa ?_
     refine qn ?_
     obtain ⟨m, hm, h⟩ := h
     exact ⟨m, hm, (IntKind.wrap .i64 (u9 * (2 : Int))), ⟨rfl, e0, e1, e2, trivial⟩, h⟩
    ·refine qs ?_
     iterate 2 refine qm ?_
     refine qy rfl (y_bin e7 e6 (bin_add _ _ _)) ?_
     refine qa ?_
     refine qn ?_
     refine qs ?_
     iterate 2 refine qm ?_
     refine qy rfl (y_bin rfl e1 (bin_lss _ _ _)) ?_
     refine qn ?_
     refine qc rfl h (fun h => ?_) fun h => ?_
     ·refine qr ?_
      iterate 5 refine qm ?_
      obtain ⟨k0, h⟩ := h
      refine wpL_call (vs := [Sl.enc a0, .int .i64 u13.1, .int .i64 (IntKind.wrap .i64 (u13.1 + u9)), .int .i64 a1, a2]) tc80 (lcons e0 (lcons e7 (lcons rfl (lcons e1 (lcons e2 lnil))))) (slices_symMergeCmpFunc_api_Link.lift k0 a2_i h) rfl ?_
      intro r22 hp h
      refine qn ?_
      exact ⟨(), ⟨e0, e1, e2, e6, trivial⟩, h⟩
     ·refine wpE_skip ?_
      exact ⟨(), ⟨e0, e1, e2, e6, trivial⟩, h⟩
  ·refine wpE_exit ?_
   exact body_n () rfl rs_nil rfl h

set_option maxHeartbeats 4000000 in
theorem slices_SortStableFunc_api_Link_api_Link.lift {a0 : Sl} {a1 : Value} {a1_f : S_api_Link → S_api_Link → (Int → Hp → Prop) → Hp → Prop} (a1_i : ∀ x0 x1 Q h, a1_f x0 x1 Q h → CallsV Try.prog a1 [S_api_Link.enc x0, S_api_Link.enc x1] h (Rt (Value.int .i64) Q)) {Q : Unit → Hp → Prop} {hp : Hp} (h : slices_SortStableFunc_api_Link_api_Link a0 a1_f Q hp) : CallsH Try.prog 49 #[Sl.enc a0, a1] hp (Rt (fun _ : Unit => .tuple #[]) Q) := by
 unfold slices_SortStableFunc_api_Link_api_Link at h
 refine calls_of 9 Try.func49 rfl rfl ?_
 refine qr ?_
 iterate 2 refine qm ?_
 refine qy rfl (y_lensl Try.underlying31 (lcons rfl lnil)) ?_
 refine qm ?_
 refine wpL_call (vs := [Sl.enc a0, .int .i64 (a0.len : Int), a1]) tc71 (lcons rfl (lcons rfl (lcons rfl lnil))) (slices_stableCmpFunc_api_Link.lift a1_i h) rfl ?_
 intro r1 hp h
 refine qn ?_
 exact body_n () rfl rs_nil rfl h

set_option maxHeartbeats 4000000 in
theorem join_merged_api_Link.lift {a0 : Sl} {a1 : Sl} {a2 : Value} {a2_f : S_api_Link → S_api_Link → (Int → Hp → Prop) → Hp → Prop} (a2_i : ∀ x0 x1 Q h, a2_f x0 x1 Q h → CallsV Try.prog a2 [S_api_Link.enc x0, S_api_Link.enc x1] h (Rt (Value.int .i64) Q)) {a3 : Value} {a3_f : S_api_Link → S_api_Link → (S_api_Link → Hp → Prop) → Hp → Prop} (a3_i : ∀ x0 x1 Q h, a3_f x0 x1 Q h → CallsV Try.prog a3 [S_api_Link.enc x0, S_api_Link.enc x1] h (Rt S_api_Link.enc Q)) {Q : Sl → Hp → Prop} {hp : Hp} (h : join_merged_api_Link a0 a1 a2_f a3_f Q hp) : CallsH Try.prog 29 #[Sl.enc a0, Sl.enc a1, a2, a3] hp (Rt Sl.enc Q) := by
 unfold join_merged_api_Link at h
 refine calls_of 60 Try.func29 rfl rfl ?_
 refine qs ?_
 refine qa ?_
 refine qn ?_
 refine qs ?_
 refine qa ?_
 refine qn ?_
 refine qs ?_
 iterate 2 refine qm ?_
 refine wpL_bsl Try.underlying120 ts31 tz31 rfl rfl rfl (pcons rfl (pcons rfl rfl)) rfl h rfl ?_
 intro b1 hp h
 refine wpL_call (vs := [Sl.enc (Sl.mk (some b1) 2 2)]) tc48 (lcons rfl lnil) (slices_Concat_api_Link_api_Link.lift h) rfl ?_
 intro r3 hp h
 refine qa ?_
 refine qn ?_
 refine qs ?_
 iterate 2 refine qm ?_
 refine wpL_call (vs := [Sl.enc r3, a2]) tc49 (lcons rfl (lcons rfl lnil)) (slices_SortStableFunc_api_Link_api_Link.lift a2_i h) rfl ?_
 intro r5 hp h
 refine qn ?_
 refine qe ?_
 refine qs ?_
 refine qm ?_
 refine qy rfl (y_lensl Try.underlying31 (lcons rfl lnil)) ?_
 refine qm ?_
 refine qn ?_
 refine wpE_block ?_
 obtain ⟨I10, m0, h, hI10⟩ := h
 refine wpE_loop (fun m ρ hp => ∃ u7 : Sl × Int, (ρ 9 = Sl.enc u7.1 ∧ ρ 23 = .int .i64 u7.2 ∧ ρ 2 = a2 ∧ ρ 3 = a3 ∧ ρ 21 = Sl.enc r3 ∧ ρ 22 = .int .i64 (r3.len : Int) ∧ True) ∧ I10 m u7 hp) (m := m0) ⟨(Sl.nil, 0), ⟨rfl, rfl, rfl, rfl, rfl, rfl, trivial⟩, h⟩ ?_
 rintro m ρ hp ⟨u7, ⟨e9, e23, e2, e3, e21, e22, _⟩, h⟩
 replace h := hI10 m u7 hp h
 refine qs ?_
 refine qy rfl (y_bin e23 e22 (bin_lss _ _ _)) ?_
 refine qn ?_
 refine qe ?_
 refine qc rfl h (fun h => ?_) fun h => ?_
 ·refine wpE_skip ?_
  obtain ⟨K12, jK12, h⟩ := h
  refine wpE_seqJH K12 (fun (x11 : Sl) (ρ : Env) (hp : Hp) => ρ 9 = Sl.enc x11 ∧ ρ 2 = a2 ∧ ρ 3 = a3 ∧ ρ 21 = Sl.enc r3 ∧ ρ 22 = .int .i64 (r3.len : Int) ∧ ρ 23 = .int .i64 u7.2 ∧ True) (fun ρ x11 hp f h => ?_) ?_
  ·obtain ⟨e9, e2, e3, e21, e22, e23, _⟩ := f
   replace h := jK12 x11 hp h
   refine qr ?_
   refine qy rfl (y_bin e23 rfl (bin_add _ _ _)) ?_
   refine qm ?_
   refine qn ?_
   obtain ⟨m, hm, h⟩ := h
   exact ⟨m, hm, (x11, IntKind.wrap .i64 (u7.2 + (1 : Int))), ⟨e9, rfl, e2, e3, e21, e22, trivial⟩, h⟩
  ·refine wpE_block ?_
   refine qs ?_
   obtain ⟨p140, q15, q150, q151, h⟩ := h
   generalize q159 : p140.add (_ * _) = p14 at h
   refine qy rfl (ycast_p (y_ix Try.underlying31 ts57 e21 e23 q15 q150 q151) q159) ?_
   obtain ⟨v16, c17, h⟩ := h
   refine qy rfl (y_lda ts57 rfl rfl c17) ?_
   refine wpL_allocX (zs := (S_api_Link.cells (S_api_Link.mk (S_api_Stamp.mk 0 0) (S_api_Stamp.mk 0 0) (S_api_Stamp.mk 0 0) (S_api_Stamp.mk 0 0) [] (A8.mk 0 0 0 0 0 0 0 0) (A8.mk 0 0 0 0 0 0 0 0)))) tz57 rfl Bx.nil h rfl ?_
   intro b18 hp h bx
   refine wpL_staX (L' := [(b18, (S_api_Link.cells v16))]) (i := 0) (off := 0) (cs' := (S_api_Link.cells v16)) ts57 rfl rfl rfl rfl bx rfl (by kernel_rfl) h (by kernel_rfl) (by kernel_rfl) ?_
   intro hp h bx
   refine qn ?_
   refine qe ?_
   refine qs ?_
   refine qm ?_
   refine qy rfl (y_lensl Try.underlying31 (lcons e9 lnil)) ?_
   refine qa ?_
   refine qn ?_
   obtain ⟨K22, jK22, h⟩ := h
   refine wpE_seqJH K22 (fun (x21 : Bool) (ρ : Env) (hp : Hp) => ρ 41 = .bool x21 ∧ ρ 2 = a2 ∧ ρ 3 = a3 ∧ ρ 9 = Sl.enc u7.1 ∧ ρ 12 = .pointer (some b18) ∧ ρ 13 = .int .i64 (u7.1.len : Int) ∧ ρ 21 = Sl.enc r3 ∧ ρ 22 = .int .i64 (r3.len : Int) ∧ ρ 23 = .int .i64 u7.2 ∧ Bx hp [(b18, (S_api_Link.cells v16))]) (fun ρ x21 hp f h => ?_) ?_
   ·obtain ⟨e41, e2, e3, e9, e12, e13, e21, e22, e23, bx⟩ := f
    replace h := jK22 x21 hp h
    refine qc e41 h (fun h => ?_) fun h => ?_
    ·refine qe ?_
     refine wpE_draw mixed rfl ?_
     refine qU 0 rfl rfl (fun _ => y_mv) ?_
     refine qU 1 rfl rfl (fun _ => y_mv) ?_
     refine qU 2 rfl rfl (fun _ => y_bin e13 rfl (bin_sub _ _ _)) ?_
     refine qU 3 rfl rfl (fun _ => y_mv) ?_
     refine qU 4 rfl rfl (fun _ => y_mv) ?_
     refine qU 5 rfl rfl (fun _ => y_mv) ?_
     refine qU 6 rfl rfl (fun _ => y_bin e13 rfl (bin_sub _ _ _)) ?_
     obtain ⟨p240, q25, q250, q251, h⟩ := h
     generalize q259 : p240.add (_ * _) = p24 at h
     refine qU 7 rfl rfl (fun _ => ycast_p (y_ix Try.underlying31 ts57 e9 rfl q25 q250 q251) q259) ?_
     obtain ⟨v26, c27, h⟩ := h
     refine qT 8 10 (fun h => Row h p24 (S_api_Link.cells v26)) rfl rfl c27 (fun _ c => y_lda ts57 rfl rfl c) ?_
     refine qT 9 10 (fun h => Row h b18 (S_api_Link.cells v16)) rfl rfl (Bx.row bx 0 0 rfl (by kernel_rfl)) (fun _ c => y_lda (cs := (S_api_Link.cells v16)) ts57 rfl e12 c) ?_
     refine wpA_loud (rs := [10]) (by kernel_rfl) rfl ?_
     refine mcons (step_of rfl ?_) mnil
     refine wpL_callv e3 (lcons rfl (lcons rfl lnil)) (a3_i _ _ _ _ h) rfl ?_
     intro r28 hp h
     refine qn ?_
     refine ⟨hs_dead rfl (hs_dead rfl hs_nil), ?_⟩
     obtain ⟨p300, q31, q310, q311, h⟩ := h
     generalize q319 : p300.add (_ * _) = p30 at h
     refine qU 11 rfl rfl (fun _ => ycast_p (y_ix Try.underlying31 ts57 e9 rfl q31 q310 q311) q319) ?_
     refine wpA_loud (rs := [12]) (by kernel_rfl) rfl ?_
     refine mcons (step_of rfl ?_) mnil
     refine wpL_sta ts57 rfl rfl rfl rfl h ?_
     generalize setCells _ _ _ _ = hp
     intro h
     refine qn ?_
     refine ⟨hs_dead rfl (hs_dead rfl hs_nil), ?_⟩
     refine qt (by kernel_rfl) ?_
     refine wpE_exit ?_
     exact ⟨u7.1, ⟨e9, e2, e3, e21, e22, e23, trivial⟩, h⟩
    ·refine wpE_skip ?_
     refine qr ?_
     refine qm ?_
     refine qy rfl (y_lda (cs := (S_api_Link.cells v16)) ts57 rfl e12 (Bx.row bx 0 0 rfl (by kernel_rfl))) ?_
     refine wpL_bsf Try.underlying31 ts57 tz57 rfl rfl (pcons rfl rfl) (full_cons rfl rfl full_nil) rfl h rfl ?_
     intro b33 hp h
     refine wpL_appsI Try.underlying31 Try.underlying31 ts57 ti57 (by decide) tz57 rfl (lcons e9 (lcons rfl lnil)) h rfl ?_
     intro v35 hp h
     refine qa ?_
     refine qn ?_
     exact ⟨v35, ⟨rfl, e2, e3, e21, e22, e23, trivial⟩, h⟩
   ·refine wpE_draw mixed rfl ?_
    refine qU 0 rfl rfl (fun _ => y_mv) ?_
    refine qU 1 rfl rfl (fun _ => y_bin rfl rfl (bin_gtr _ _ _)) ?_
    refine qU 2 rfl rfl (fun _ => y_mv) ?_
    refine wpA_split h (fun g37 h => ?_) (fun g37 h => ?_)
    ·refine qV 3 rfl rfl g37 (fun _ => y_mv) ?_
     refine qV 4 rfl rfl g37 (fun _ => y_mv) ?_
     refine qV 5 rfl rfl g37 (fun _ => y_mv) ?_
     refine qV 6 rfl rfl g37 (fun _ => y_bin rfl rfl (bin_sub _ _ _)) ?_
     obtain ⟨p380, q39, q390, q391, h⟩ := h
     generalize q399 : p380.add (_ * _) = p38 at h
     refine qV 7 rfl rfl g37 (fun _ => ycast_p (y_ix Try.underlying31 ts57 e9 rfl q39 q390 q391) q399) ?_
     obtain ⟨v40, c41, h⟩ := h
     refine wpA_take (i := 8) (kk := 10) (fun h => Row h p38 (S_api_Link.cells v40)) rfl rfl rfl (by kernel_rfl) (by kernel_rfl) (wt_bool rfl rfl rfl (vbool rfl g37) rfl) (fun _ _ _ _ h => h) c41 (fun _ c => y_lda ts57 rfl rfl c) ?_
     refine wpA_take (i := 9) (kk := 10) (fun h => Row h b18 (S_api_Link.cells v16)) rfl rfl rfl (by kernel_rfl) (by kernel_rfl) (wt_bool rfl rfl rfl (vbool rfl g37) rfl) (fun _ _ _ _ h => h) (Bx.row bx 0 0 rfl (by kernel_rfl)) (fun _ c => y_lda (cs := (S_api_Link.cells v16)) ts57 rfl rfl c) ?_
     refine wpA_loud (rs := [10]) (by kernel_rfl) rfl ?_
     refine mcons (step_of rfl ?_) mnil
     refine qg rfl g37 ?_
     refine wpL_callv e2 (lcons rfl (lcons rfl lnil)) (a2_i _ _ _ _ h) rfl ?_
     intro r42 hp h
     obtain ⟨kx, h⟩ := h
     replace bx := Bx.keep bx kx rfl
     refine qn ?_
     refine ⟨hs_dead rfl (hs_dead rfl hs_nil), ?_⟩
     refine qV 11 rfl rfl g37 (fun _ => y_bin rfl rfl (bin_eql _ _ _)) ?_
     refine qU 12 rfl rfl (fun _ => y_pickt (vbool rfl g37)) ?_
     refine qt (by kernel_rfl) ?_
     exact ⟨(r42 == (0 : Int)), ⟨rfl, e2, e3, e9, rfl, rfl, e21, e22, e23, bx⟩, h⟩
    ·refine qW 3 rfl rfl g37 ?_
     refine qW 4 rfl rfl g37 ?_
     refine qW 5 rfl rfl g37 ?_
     refine qW 6 rfl rfl g37 ?_
     refine qW 7 rfl rfl g37 ?_
     refine qW 8 rfl rfl g37 ?_
     refine qW 9 rfl rfl g37 ?_
     refine qW 10 rfl rfl g37 ?_
     refine qW 11 rfl rfl g37 ?_
     refine qU 12 rfl rfl (fun _ => y_pickf (vbool rfl g37)) ?_
     refine qt (by kernel_rfl) ?_
     exact ⟨false, ⟨rfl, e2, e3, e9, rfl, rfl, e21, e22, e23, bx⟩, h⟩
 ·refine wpE_exit ?_
  refine qs ?_
  refine qm ?_
  refine qa ?_
  refine qn ?_
  refine wpE_ret ?_
  exact body_r u7.1 rfl (rs_tmp e9 rs_nil) rfl h

set_option maxHeartbeats 4000000 in
theorem join_States_2.lift {a0 : S_api_Link} {a1 : S_api_Link} {Q : Int → Hp → Prop} {hp : Hp} (h : join_States_2 a0 a1 Q hp) : CallsH Try.prog 30 #[S_api_Link.enc a0, S_api_Link.enc a1] hp (Rt (Value.int .i64) Q) := by
 unfold join_States_2 at h
 refine calls_of 10 Try.func30 rfl rfl ?_
 refine qs ?_
 refine wpL_boxX (vs := (S_api_Link.cells a0)) rfl rfl Bx.nil h rfl ?_
 intro b1 hp h bx
 refine wpL_boxX (vs := (S_api_Link.cells a1)) rfl rfl bx h rfl ?_
 intro b3 hp h bx
 refine qa ?_
 refine qn ?_
 refine qs ?_
 refine qy rfl (y_fa fa57_0 rfl) ?_
 refine qy rfl (y_lda (cs := (S_api_Stamp.cells a0.Id)) ts27 rfl rfl (Bx.row bx 1 0 rfl (by kernel_rfl))) ?_
 refine qy rfl (y_fa fa57_0 rfl) ?_
 refine qy rfl (y_lda (cs := (S_api_Stamp.cells a1.Id)) ts27 rfl rfl (Bx.row bx 0 0 rfl (by kernel_rfl))) ?_
 refine wpL_call (vs := [S_api_Stamp.enc a0.Id, S_api_Stamp.enc a1.Id]) tc27 (lcons rfl (lcons rfl lnil)) (join_stamps.lift h) rfl ?_
 intro r5 hp h
 refine qa ?_
 refine qn ?_
 refine wpE_ret ?_
 exact body_r r5 rfl (rs_tmp rfl rs_nil) rfl h

set_option maxHeartbeats 4000000 in
theorem join_greater_api_Link.lift {a0 : S_api_Link} {a1 : S_api_Link} {a2 : Value} {a2_f : S_api_Link → S_api_Link → (Int → Hp → Prop) → Hp → Prop} (a2_i : ∀ x0 x1 Q h, a2_f x0 x1 Q h → CallsV Try.prog a2 [S_api_Link.enc x0, S_api_Link.enc x1] h (Rt (Value.int .i64) Q)) {Q : S_api_Link → Hp → Prop} {hp : Hp} (h : join_greater_api_Link a0 a1 a2_f Q hp) : CallsH Try.prog 50 #[S_api_Link.enc a0, S_api_Link.enc a1, a2] hp (Rt S_api_Link.enc Q) := by
 unfold join_greater_api_Link at h
 refine calls_of 14 Try.func50 rfl rfl ?_
 refine qs ?_
 refine wpL_boxX (vs := (S_api_Link.cells a0)) rfl rfl Bx.nil h rfl ?_
 intro b1 hp h bx
 refine wpL_boxX (vs := (S_api_Link.cells a1)) rfl rfl bx h rfl ?_
 intro b3 hp h bx
 refine wpL_allocX (zs := (S_api_Link.cells (S_api_Link.mk (S_api_Stamp.mk 0 0) (S_api_Stamp.mk 0 0) (S_api_Stamp.mk 0 0) (S_api_Stamp.mk 0 0) [] (A8.mk 0 0 0 0 0 0 0 0) (A8.mk 0 0 0 0 0 0 0 0)))) tz57 rfl bx h rfl ?_
 intro b5 hp h bx
 refine qn ?_
 refine qe ?_
 refine qs ?_
 refine qm ?_
 refine qy rfl (y_lda (cs := (S_api_Link.cells a0)) ts57 rfl rfl (Bx.row bx 2 0 rfl (by kernel_rfl))) ?_
 refine qy rfl (y_lda (cs := (S_api_Link.cells a1)) ts57 rfl rfl (Bx.row bx 1 0 rfl (by kernel_rfl))) ?_
 refine wpL_callv rfl (lcons rfl (lcons rfl lnil)) (a2_i _ _ _ _ h) rfl ?_
 intro r7 hp h
 obtain ⟨kx, h⟩ := h
 replace bx := Bx.keep bx kx rfl
 refine qy rfl (y_bin rfl rfl (bin_lss _ _ _)) ?_
 refine qn ?_
 refine qc rfl h (fun h => ?_) fun h => ?_
 ·refine qs ?_
  refine qy rfl (y_lda (cs := (S_api_Link.cells a1)) ts57 rfl rfl (Bx.row bx 1 0 rfl (by kernel_rfl))) ?_
  refine wpL_staX (L' := [(b5, (S_api_Link.cells a1)), (b3, (S_api_Link.cells a1)), (b1, (S_api_Link.cells a0))]) (i := 0) (off := 0) (cs' := (S_api_Link.cells a1)) ts57 rfl rfl rfl rfl bx rfl (by kernel_rfl) h (by kernel_rfl) (by kernel_rfl) ?_
  intro hp h bx
  refine qn ?_
  refine wpE_ret ?_
  exact body_r a1 rfl (rs_cella ts57 rfl rfl (Bx.row bx 0 0 rfl (by kernel_rfl)) rs_nil) rfl h
 ·refine wpE_skip ?_
  refine qs ?_
  refine qy rfl (y_lda (cs := (S_api_Link.cells a0)) ts57 rfl rfl (Bx.row bx 2 0 rfl (by kernel_rfl))) ?_
  refine wpL_staX (L' := [(b5, (S_api_Link.cells a0)), (b3, (S_api_Link.cells a1)), (b1, (S_api_Link.cells a0))]) (i := 0) (off := 0) (cs' := (S_api_Link.cells a0)) ts57 rfl rfl rfl rfl bx rfl (by kernel_rfl) h (by kernel_rfl) (by kernel_rfl) ?_
  intro hp h bx
  refine qn ?_
  refine wpE_ret ?_
  exact body_r a0 rfl (rs_cella ts57 rfl rfl (Bx.row bx 0 0 rfl (by kernel_rfl)) rs_nil) rfl h

set_option maxHeartbeats 4000000 in
theorem join_places.lift {a0 : S_api_Link} {a1 : S_api_Link} {Q : Int → Hp → Prop} {hp : Hp} (h : join_places a0 a1 Q hp) : CallsH Try.prog 51 #[S_api_Link.enc a0, S_api_Link.enc a1] hp (Rt (Value.int .i64) Q) := by
 unfold join_places at h
 refine calls_of 22 Try.func51 rfl rfl ?_
 refine qs ?_
 refine wpL_boxX (vs := (S_api_Link.cells a0)) rfl rfl Bx.nil h rfl ?_
 intro b1 hp h bx
 refine wpL_boxX (vs := (S_api_Link.cells a1)) rfl rfl bx h rfl ?_
 intro b3 hp h bx
 refine qa ?_
 refine qn ?_
 refine qe ?_
 refine wpE_draw mixed rfl ?_
 refine qU 0 rfl rfl (fun _ => y_fa fa57_2 rfl) ?_
 refine qT 1 4 (fun h => Row h (b1.add 4) (S_api_Stamp.cells a0.At)) rfl rfl (Bx.row bx 1 4 rfl (by kernel_rfl)) (fun _ c => y_lda (cs := (S_api_Stamp.cells a0.At)) ts27 rfl rfl c) ?_
 refine qU 2 rfl rfl (fun _ => y_fa fa57_2 rfl) ?_
 refine qT 3 4 (fun h => Row h (b3.add 4) (S_api_Stamp.cells a1.At)) rfl rfl (Bx.row bx 0 4 rfl (by kernel_rfl)) (fun _ c => y_lda (cs := (S_api_Stamp.cells a1.At)) ts27 rfl rfl c) ?_
 refine qU 5 rfl rfl (fun _ => y_fa fa57_3 rfl) ?_
 refine qT 6 9 (fun h => Row h (b1.add 6) (S_api_Stamp.cells a0.Parent)) rfl rfl (Bx.row bx 1 6 rfl (by kernel_rfl)) (fun _ c => y_lda (cs := (S_api_Stamp.cells a0.Parent)) ts27 rfl rfl c) ?_
 refine qU 7 rfl rfl (fun _ => y_fa fa57_3 rfl) ?_
 refine qT 8 9 (fun h => Row h (b3.add 6) (S_api_Stamp.cells a1.Parent)) rfl rfl (Bx.row bx 0 6 rfl (by kernel_rfl)) (fun _ c => y_lda (cs := (S_api_Stamp.cells a1.Parent)) ts27 rfl rfl c) ?_
 refine qU 10 rfl rfl (fun _ => y_fa fa57_4 rfl) ?_
 refine qT 11 14 (fun h => Hp.cell? h (b1.add 8) = some (vS a0.Name)) rfl rfl (Bx.cell bx 1 8 rfl (by kernel_rfl)) (fun _ c => y_ld (v := (vS a0.Name)) ts9 rfl c) ?_
 refine qU 12 rfl rfl (fun _ => y_fa fa57_4 rfl) ?_
 refine qT 13 14 (fun h => Hp.cell? h (b3.add 8) = some (vS a1.Name)) rfl rfl (Bx.cell bx 0 8 rfl (by kernel_rfl)) (fun _ c => y_ld (v := (vS a1.Name)) ts9 rfl c) ?_
 refine wpA_loud (rs := [4]) (by kernel_rfl) rfl ?_
 refine mcons (step_of rfl ?_) mnil
 refine wpL_call (vs := [S_api_Stamp.enc a0.At, S_api_Stamp.enc a1.At]) tc27 (lcons rfl (lcons rfl lnil)) (join_stamps.lift h) rfl ?_
 intro r5 hp h
 obtain ⟨kx, h⟩ := h
 replace bx := Bx.keep bx kx rfl
 refine qn ?_
 refine ⟨hs_live (Bx.cell bx 0 8 rfl (by kernel_rfl)) (hs_live (Bx.cell bx 1 8 rfl (by kernel_rfl)) (hs_live (Bx.row bx 0 6 rfl (by kernel_rfl)) (hs_live (Bx.row bx 1 6 rfl (by kernel_rfl)) (hs_dead rfl (hs_dead rfl hs_nil))))), ?_⟩
 refine wpA_loud (rs := [9]) (by kernel_rfl) rfl ?_
 refine mcons (step_of rfl ?_) mnil
 refine wpL_call (vs := [S_api_Stamp.enc a0.Parent, S_api_Stamp.enc a1.Parent]) tc27 (lcons rfl (lcons rfl lnil)) (join_stamps.lift h) rfl ?_
 intro r7 hp h
 obtain ⟨kx, h⟩ := h
 replace bx := Bx.keep bx kx rfl
 refine qn ?_
 refine ⟨hs_live (Bx.cell bx 0 8 rfl (by kernel_rfl)) (hs_live (Bx.cell bx 1 8 rfl (by kernel_rfl)) (hs_dead rfl (hs_dead rfl (hs_dead rfl (hs_dead rfl hs_nil))))), ?_⟩
 refine wpA_loud (rs := [14]) (by kernel_rfl) rfl ?_
 refine mcons (step_of rfl ?_) mnil
 refine wpL_call (vs := [vS a0.Name, vS a1.Name]) tc60 (lcons rfl (lcons rfl lnil)) (cmp_Compare_string.lift h) rfl ?_
 intro r9 hp h
 refine qn ?_
 refine ⟨hs_dead rfl (hs_dead rfl (hs_dead rfl (hs_dead rfl (hs_dead rfl (hs_dead rfl hs_nil))))), ?_⟩
 refine wpA_loud (rs := [15]) (by kernel_rfl) rfl ?_
 refine mcons (step_of rfl ?_) mnil
 refine wpL_bsl Try.underlying23 ts3 tz3 rfl rfl rfl (pcons rfl (pcons rfl (pcons rfl rfl))) rfl h rfl ?_
 intro b11 hp h
 refine qn ?_
 refine ⟨hs_dead rfl (hs_dead rfl (hs_dead rfl (hs_dead rfl (hs_dead rfl (hs_dead rfl hs_nil))))), ?_⟩
 refine wpA_loud (rs := [16]) (by kernel_rfl) rfl ?_
 refine mcons (step_of rfl ?_) mnil
 refine wpL_call (vs := [Sl.enc (Sl.mk (some b11) 3 3)]) tc40 (lcons rfl lnil) (cmp_Or_int.lift h) rfl ?_
 intro r13 hp h
 refine qn ?_
 refine ⟨hs_dead rfl (hs_dead rfl (hs_dead rfl (hs_dead rfl (hs_dead rfl (hs_dead rfl hs_nil))))), ?_⟩
 refine qU 17 rfl rfl (fun _ => y_as) ?_
 refine qt (by kernel_rfl) ?_
 refine wpE_ret ?_
 exact body_r r13 rfl (rs_tmp rfl rs_nil) rfl h

set_option maxHeartbeats 4000000 in
theorem join_greater_api_Stamp.lift {a0 : S_api_Stamp} {a1 : S_api_Stamp} {a2 : Value} {a2_f : S_api_Stamp → S_api_Stamp → (Int → Hp → Prop) → Hp → Prop} (a2_i : ∀ x0 x1 Q h, a2_f x0 x1 Q h → CallsV Try.prog a2 [S_api_Stamp.enc x0, S_api_Stamp.enc x1] h (Rt (Value.int .i64) Q)) {Q : S_api_Stamp → Hp → Prop} {hp : Hp} (h : join_greater_api_Stamp a0 a1 a2_f Q hp) : CallsH Try.prog 52 #[S_api_Stamp.enc a0, S_api_Stamp.enc a1, a2] hp (Rt S_api_Stamp.enc Q) := by
 unfold join_greater_api_Stamp at h
 refine calls_of 14 Try.func52 rfl rfl ?_
 refine qs ?_
 refine wpL_boxX (vs := (S_api_Stamp.cells a0)) rfl rfl Bx.nil h rfl ?_
 intro b1 hp h bx
 refine wpL_boxX (vs := (S_api_Stamp.cells a1)) rfl rfl bx h rfl ?_
 intro b3 hp h bx
 refine wpL_allocX (zs := (S_api_Stamp.cells (S_api_Stamp.mk 0 0))) tz27 rfl bx h rfl ?_
 intro b5 hp h bx
 refine qn ?_
 refine qe ?_
 refine qs ?_
 refine qm ?_
 refine qy rfl (y_lda (cs := (S_api_Stamp.cells a0)) ts27 rfl rfl (Bx.row bx 2 0 rfl (by kernel_rfl))) ?_
 refine qy rfl (y_lda (cs := (S_api_Stamp.cells a1)) ts27 rfl rfl (Bx.row bx 1 0 rfl (by kernel_rfl))) ?_
 refine wpL_callv rfl (lcons rfl (lcons rfl lnil)) (a2_i _ _ _ _ h) rfl ?_
 intro r7 hp h
 obtain ⟨kx, h⟩ := h
 replace bx := Bx.keep bx kx rfl
 refine qy rfl (y_bin rfl rfl (bin_lss _ _ _)) ?_
 refine qn ?_
 refine qc rfl h (fun h => ?_) fun h => ?_
 ·refine qs ?_
  refine qy rfl (y_lda (cs := (S_api_Stamp.cells a1)) ts27 rfl rfl (Bx.row bx 1 0 rfl (by kernel_rfl))) ?_
  refine wpL_staX (L' := [(b5, (S_api_Stamp.cells a1)), (b3, (S_api_Stamp.cells a1)), (b1, (S_api_Stamp.cells a0))]) (i := 0) (off := 0) (cs' := (S_api_Stamp.cells a1)) ts27 rfl rfl rfl rfl bx rfl (by kernel_rfl) h (by kernel_rfl) (by kernel_rfl) ?_
  intro hp h bx
  refine qn ?_
  refine wpE_ret ?_
  exact body_r a1 rfl (rs_cella ts27 rfl rfl (Bx.row bx 0 0 rfl (by kernel_rfl)) rs_nil) rfl h
 ·refine wpE_skip ?_
  refine qs ?_
  refine qy rfl (y_lda (cs := (S_api_Stamp.cells a0)) ts27 rfl rfl (Bx.row bx 2 0 rfl (by kernel_rfl))) ?_
  refine wpL_staX (L' := [(b5, (S_api_Stamp.cells a0)), (b3, (S_api_Stamp.cells a1)), (b1, (S_api_Stamp.cells a0))]) (i := 0) (off := 0) (cs' := (S_api_Stamp.cells a0)) ts27 rfl rfl rfl rfl bx rfl (by kernel_rfl) h (by kernel_rfl) (by kernel_rfl) ?_
  intro hp h bx
  refine qn ?_
  refine wpE_ret ?_
  exact body_r a0 rfl (rs_cella ts27 rfl rfl (Bx.row bx 0 0 rfl (by kernel_rfl)) rs_nil) rfl h

set_option maxHeartbeats 4000000 in
theorem join_link.lift {a0 : S_api_Link} {a1 : S_api_Link} {Q : S_api_Link → Hp → Prop} {hp : Hp} (h : join_link a0 a1 Q hp) : CallsH Try.prog 31 #[S_api_Link.enc a0, S_api_Link.enc a1] hp (Rt S_api_Link.enc Q) := by
 unfold join_link at h
 refine calls_of 37 Try.func31 rfl rfl ?_
 refine qs ?_
 refine wpL_boxX (vs := (S_api_Link.cells a0)) rfl rfl Bx.nil h rfl ?_
 intro b1 hp h bx
 refine wpL_boxX (vs := (S_api_Link.cells a1)) rfl rfl bx h rfl ?_
 intro b3 hp h bx
 refine wpL_allocX (zs := (S_api_Link.cells (S_api_Link.mk (S_api_Stamp.mk 0 0) (S_api_Stamp.mk 0 0) (S_api_Stamp.mk 0 0) (S_api_Stamp.mk 0 0) [] (A8.mk 0 0 0 0 0 0 0 0) (A8.mk 0 0 0 0 0 0 0 0)))) tz57 rfl bx h rfl ?_
 intro b5 hp h bx
 refine qn ?_
 refine qs ?_
 refine qy rfl (y_lda (cs := (S_api_Link.cells a0)) ts57 rfl rfl (Bx.row bx 2 0 rfl (by kernel_rfl))) ?_
 refine qy rfl (y_lda (cs := (S_api_Link.cells a1)) ts57 rfl rfl (Bx.row bx 1 0 rfl (by kernel_rfl))) ?_
 refine wpL_call (vs := [S_api_Link.enc a0, S_api_Link.enc a1, .func (.func 51) #[] #[]]) tc50 (lcons rfl (lcons rfl (lcons rfl lnil))) (join_greater_api_Link.lift (fun x0 x1 Q h hm => ⟨51, [], [], rfl, tc51, join_places.lift hm⟩) h) rfl ?_
 intro r7 hp h
 obtain ⟨kx, h⟩ := h
 replace bx := Bx.keep bx kx rfl
 refine wpL_allocX (zs := (S_api_Link.cells (S_api_Link.mk (S_api_Stamp.mk 0 0) (S_api_Stamp.mk 0 0) (S_api_Stamp.mk 0 0) (S_api_Stamp.mk 0 0) [] (A8.mk 0 0 0 0 0 0 0 0) (A8.mk 0 0 0 0 0 0 0 0)))) tz57 rfl bx h rfl ?_
 intro b9 hp h bx
 refine wpL_staX (L' := [(b9, (S_api_Link.cells r7)), (b5, (S_api_Link.cells (S_api_Link.mk (S_api_Stamp.mk 0 0) (S_api_Stamp.mk 0 0) (S_api_Stamp.mk 0 0) (S_api_Stamp.mk 0 0) [] (A8.mk 0 0 0 0 0 0 0 0) (A8.mk 0 0 0 0 0 0 0 0)))), (b3, (S_api_Link.cells a1)), (b1, (S_api_Link.cells a0))]) (i := 0) (off := 0) (cs' := (S_api_Link.cells r7)) ts57 rfl rfl rfl rfl bx rfl (by kernel_rfl) h (by kernel_rfl) (by kernel_rfl) ?_
 intro hp h bx
 refine qn ?_
 refine qe ?_
 refine wpE_draw mixed rfl ?_
 refine qU 0 rfl rfl (fun _ => y_fa fa57_2 rfl) ?_
 refine qT 1 7 (fun h => Row h (b9.add 4) (S_api_Stamp.cells r7.At)) rfl rfl (Bx.row bx 0 4 rfl (by kernel_rfl)) (fun _ c => y_lda (cs := (S_api_Stamp.cells r7.At)) ts27 rfl rfl c) ?_
 refine qU 2 rfl rfl (fun _ => y_fa fa57_3 rfl) ?_
 refine qT 3 9 (fun h => Row h (b9.add 6) (S_api_Stamp.cells r7.Parent)) rfl rfl (Bx.row bx 0 6 rfl (by kernel_rfl)) (fun _ c => y_lda (cs := (S_api_Stamp.cells r7.Parent)) ts27 rfl rfl c) ?_
 refine qU 4 rfl rfl (fun _ => y_fa fa57_4 rfl) ?_
 refine qT 5 11 (fun h => Hp.cell? h (b9.add 8) = some (vS r7.Name)) rfl rfl (Bx.cell bx 0 8 rfl (by kernel_rfl)) (fun _ c => y_ld (v := (vS r7.Name)) ts9 rfl c) ?_
 refine qU 6 rfl rfl (fun _ => y_fa fa57_2 rfl) ?_
 refine wpA_loud (rs := [7]) (by kernel_rfl) rfl ?_
 refine mcons (step_of rfl ?_) mnil
 refine wpL_staX (L' := [(b9, (S_api_Link.cells r7)), (b5, (S_api_Link.cells (S_api_Link.mk (S_api_Stamp.mk 0 0) (S_api_Stamp.mk 0 0) (S_api_Stamp.mk 0 0) (S_api_Stamp.mk 0 0) [] (A8.mk 0 0 0 0 0 0 0 0) (A8.mk 0 0 0 0 0 0 0 0)))), (b3, (S_api_Link.cells a1)), (b1, (S_api_Link.cells (S_api_Link.mk a0.Id a0.Node r7.At a0.Parent a0.Name a0.Alive a0.Dead)))]) (i := 3) (off := 4) (cs' := (S_api_Link.cells (S_api_Link.mk a0.Id a0.Node r7.At a0.Parent a0.Name a0.Alive a0.Dead))) ts27 rfl rfl rfl rfl bx rfl (by kernel_rfl) h (by kernel_rfl) (by kernel_rfl) ?_
 intro hp h bx
 refine qn ?_
 refine ⟨hs_live (Bx.cell bx 0 8 rfl (by kernel_rfl)) (hs_live (Bx.row bx 0 6 rfl (by kernel_rfl)) (hs_dead rfl hs_nil)), ?_⟩
 refine qU 8 rfl rfl (fun _ => y_fa fa57_3 rfl) ?_
 refine wpA_loud (rs := [9]) (by kernel_rfl) rfl ?_
 refine mcons (step_of rfl ?_) mnil
 refine wpL_staX (L' := [(b9, (S_api_Link.cells r7)), (b5, (S_api_Link.cells (S_api_Link.mk (S_api_Stamp.mk 0 0) (S_api_Stamp.mk 0 0) (S_api_Stamp.mk 0 0) (S_api_Stamp.mk 0 0) [] (A8.mk 0 0 0 0 0 0 0 0) (A8.mk 0 0 0 0 0 0 0 0)))), (b3, (S_api_Link.cells a1)), (b1, (S_api_Link.cells (S_api_Link.mk a0.Id a0.Node r7.At r7.Parent a0.Name a0.Alive a0.Dead)))]) (i := 3) (off := 6) (cs' := (S_api_Link.cells (S_api_Link.mk a0.Id a0.Node r7.At r7.Parent a0.Name a0.Alive a0.Dead))) ts27 rfl rfl rfl rfl bx rfl (by kernel_rfl) h (by kernel_rfl) (by kernel_rfl) ?_
 intro hp h bx
 refine qn ?_
 refine ⟨hs_live (Bx.cell bx 0 8 rfl (by kernel_rfl)) (hs_dead rfl (hs_dead rfl hs_nil)), ?_⟩
 refine qU 10 rfl rfl (fun _ => y_fa fa57_4 rfl) ?_
 refine wpA_loud (rs := [11]) (by kernel_rfl) rfl ?_
 refine mcons (step_of rfl ?_) mnil
 refine wpL_stX (L' := [(b9, (S_api_Link.cells r7)), (b5, (S_api_Link.cells (S_api_Link.mk (S_api_Stamp.mk 0 0) (S_api_Stamp.mk 0 0) (S_api_Stamp.mk 0 0) (S_api_Stamp.mk 0 0) [] (A8.mk 0 0 0 0 0 0 0 0) (A8.mk 0 0 0 0 0 0 0 0)))), (b3, (S_api_Link.cells a1)), (b1, (S_api_Link.cells (S_api_Link.mk a0.Id a0.Node r7.At r7.Parent r7.Name a0.Alive a0.Dead)))]) (i := 3) (off := 8) ts9 rfl rfl rfl bx rfl rfl h (by kernel_rfl) ?_
 intro hp h bx
 refine qn ?_
 refine ⟨hs_dead rfl (hs_dead rfl (hs_dead rfl hs_nil)), ?_⟩
 refine qt (by kernel_rfl) ?_
 refine qs ?_
 refine qy rfl (y_fa fa57_1 rfl) ?_
 refine qy rfl (y_lda (cs := (S_api_Stamp.cells a0.Node)) ts27 rfl rfl (Bx.row bx 3 2 rfl (by kernel_rfl))) ?_
 refine qy rfl (y_fa fa57_1 rfl) ?_
 refine qy rfl (y_lda (cs := (S_api_Stamp.cells a1.Node)) ts27 rfl rfl (Bx.row bx 2 2 rfl (by kernel_rfl))) ?_
 refine wpL_call (vs := [S_api_Stamp.enc a0.Node, S_api_Stamp.enc a1.Node, .func (.func 27) #[] #[]]) tc52 (lcons rfl (lcons rfl (lcons rfl lnil))) (join_greater_api_Stamp.lift (fun x0 x1 Q h hm => ⟨27, [], [], rfl, tc27, join_stamps.lift hm⟩) h) rfl ?_
 intro r15 hp h
 obtain ⟨kx, h⟩ := h
 replace bx := Bx.keep (bx.sub (L' := [(b5, (S_api_Link.cells (S_api_Link.mk (S_api_Stamp.mk 0 0) (S_api_Stamp.mk 0 0) (S_api_Stamp.mk 0 0) (S_api_Stamp.mk 0 0) [] (A8.mk 0 0 0 0 0 0 0 0) (A8.mk 0 0 0 0 0 0 0 0)))), (b3, (S_api_Link.cells a1)), (b1, (S_api_Link.cells (S_api_Link.mk a0.Id a0.Node r7.At r7.Parent r7.Name a0.Alive a0.Dead)))]) (.cons _ (.cons_cons _ (.cons_cons _ (.cons_cons _ .slnil))))) kx rfl
 refine qy rfl (y_fa fa57_1 rfl) ?_
 refine wpL_staX (L' := [(b5, (S_api_Link.cells (S_api_Link.mk (S_api_Stamp.mk 0 0) (S_api_Stamp.mk 0 0) (S_api_Stamp.mk 0 0) (S_api_Stamp.mk 0 0) [] (A8.mk 0 0 0 0 0 0 0 0) (A8.mk 0 0 0 0 0 0 0 0)))), (b3, (S_api_Link.cells a1)), (b1, (S_api_Link.cells (S_api_Link.mk a0.Id r15 r7.At r7.Parent r7.Name a0.Alive a0.Dead)))]) (i := 2) (off := 2) (cs' := (S_api_Link.cells (S_api_Link.mk a0.Id r15 r7.At r7.Parent r7.Name a0.Alive a0.Dead))) ts27 rfl rfl rfl rfl bx rfl (by kernel_rfl) h (by kernel_rfl) (by kernel_rfl) ?_
 intro hp h bx
 refine qn ?_
 refine qe ?_
 refine wpE_draw mixed rfl ?_
 refine qU 0 rfl rfl (fun _ => y_fa fa57_5 rfl) ?_
 refine qT 1 4 (fun h => Row h (b1.add 9) ((A8.cells .i64) a0.Alive)) rfl rfl (Bx.row bx 2 9 rfl (by kernel_rfl)) (fun _ c => y_lda (cs := ((A8.cells .i64) a0.Alive)) ts29 rfl rfl c) ?_
 refine qU 2 rfl rfl (fun _ => y_fa fa57_5 rfl) ?_
 refine qT 3 4 (fun h => Row h (b3.add 9) ((A8.cells .i64) a1.Alive)) rfl rfl (Bx.row bx 1 9 rfl (by kernel_rfl)) (fun _ c => y_lda (cs := ((A8.cells .i64) a1.Alive)) ts29 rfl rfl c) ?_
 refine qU 5 rfl rfl (fun _ => y_fa fa57_6 rfl) ?_
 refine qT 6 9 (fun h => Row h (b1.add 17) ((A8.cells .i64) a0.Dead)) rfl rfl (Bx.row bx 2 17 rfl (by kernel_rfl)) (fun _ c => y_lda (cs := ((A8.cells .i64) a0.Dead)) ts29 rfl rfl c) ?_
 refine qU 7 rfl rfl (fun _ => y_fa fa57_6 rfl) ?_
 refine qT 8 9 (fun h => Row h (b3.add 17) ((A8.cells .i64) a1.Dead)) rfl rfl (Bx.row bx 1 17 rfl (by kernel_rfl)) (fun _ c => y_lda (cs := ((A8.cells .i64) a1.Dead)) ts29 rfl rfl c) ?_
 refine wpA_loud (rs := [4]) (by kernel_rfl) rfl ?_
 refine mcons (step_of rfl ?_) mnil
 refine wpL_call (vs := [A8.enc .i64 a0.Alive, A8.enc .i64 a1.Alive]) tc24 (lcons rfl (lcons rfl lnil)) (vector_Join.lift h) rfl ?_
 intro r18 hp h
 obtain ⟨kx, h⟩ := h
 replace bx := Bx.keep bx kx rfl
 refine qn ?_
 refine ⟨hs_live (Bx.row bx 1 17 rfl (by kernel_rfl)) (hs_live (Bx.row bx 2 17 rfl (by kernel_rfl)) (hs_dead rfl (hs_dead rfl hs_nil))), ?_⟩
 refine qU 10 rfl rfl (fun _ => y_fa fa57_5 rfl) ?_
 refine wpA_loud (rs := [9]) (by kernel_rfl) rfl ?_
 refine mcons (step_of rfl ?_) mnil
 refine wpL_call (vs := [A8.enc .i64 a0.Dead, A8.enc .i64 a1.Dead]) tc24 (lcons rfl (lcons rfl lnil)) (vector_Join.lift h) rfl ?_
 intro r20 hp h
 obtain ⟨kx, h⟩ := h
 replace bx := Bx.keep (bx.sub (L' := [(b5, (S_api_Link.cells (S_api_Link.mk (S_api_Stamp.mk 0 0) (S_api_Stamp.mk 0 0) (S_api_Stamp.mk 0 0) (S_api_Stamp.mk 0 0) [] (A8.mk 0 0 0 0 0 0 0 0) (A8.mk 0 0 0 0 0 0 0 0)))), (b1, (S_api_Link.cells (S_api_Link.mk a0.Id r15 r7.At r7.Parent r7.Name a0.Alive a0.Dead)))]) (.cons_cons _ (.cons _ (.cons_cons _ .slnil)))) kx rfl
 refine qn ?_
 refine ⟨hs_dead rfl (hs_dead rfl (hs_dead rfl (hs_dead rfl hs_nil))), ?_⟩
 refine wpA_loud (rs := [11]) (by kernel_rfl) rfl ?_
 refine mcons (step_of rfl ?_) mnil
 refine wpL_staX (L' := [(b5, (S_api_Link.cells (S_api_Link.mk (S_api_Stamp.mk 0 0) (S_api_Stamp.mk 0 0) (S_api_Stamp.mk 0 0) (S_api_Stamp.mk 0 0) [] (A8.mk 0 0 0 0 0 0 0 0) (A8.mk 0 0 0 0 0 0 0 0)))), (b1, (S_api_Link.cells (S_api_Link.mk a0.Id r15 r7.At r7.Parent r7.Name r18 a0.Dead)))]) (i := 1) (off := 9) (cs' := (S_api_Link.cells (S_api_Link.mk a0.Id r15 r7.At r7.Parent r7.Name r18 a0.Dead))) ts29 rfl rfl rfl rfl bx rfl (by kernel_rfl) h (by kernel_rfl) (by kernel_rfl) ?_
 intro hp h bx
 refine qn ?_
 refine ⟨hs_dead rfl (hs_dead rfl (hs_dead rfl (hs_dead rfl hs_nil))), ?_⟩
 refine qU 12 rfl rfl (fun _ => y_fa fa57_6 rfl) ?_
 refine wpA_loud (rs := [13]) (by kernel_rfl) rfl ?_
 refine mcons (step_of rfl ?_) mnil
 refine wpL_staX (L' := [(b5, (S_api_Link.cells (S_api_Link.mk (S_api_Stamp.mk 0 0) (S_api_Stamp.mk 0 0) (S_api_Stamp.mk 0 0) (S_api_Stamp.mk 0 0) [] (A8.mk 0 0 0 0 0 0 0 0) (A8.mk 0 0 0 0 0 0 0 0)))), (b1, (S_api_Link.cells (S_api_Link.mk a0.Id r15 r7.At r7.Parent r7.Name r18 r20)))]) (i := 1) (off := 17) (cs' := (S_api_Link.cells (S_api_Link.mk a0.Id r15 r7.At r7.Parent r7.Name r18 r20))) ts29 rfl rfl rfl rfl bx rfl (by kernel_rfl) h (by kernel_rfl) (by kernel_rfl) ?_
 intro hp h bx
 refine qn ?_
 refine ⟨hs_dead rfl (hs_dead rfl (hs_dead rfl (hs_dead rfl hs_nil))), ?_⟩
 refine qt (by kernel_rfl) ?_
 refine qs ?_
 refine qy rfl (y_lda (cs := (S_api_Link.cells (S_api_Link.mk a0.Id r15 r7.At r7.Parent r7.Name r18 r20))) ts57 rfl rfl (Bx.row bx 1 0 rfl (by kernel_rfl))) ?_
 refine wpL_staX (L' := [(b5, (S_api_Link.cells (S_api_Link.mk a0.Id r15 r7.At r7.Parent r7.Name r18 r20))), (b1, (S_api_Link.cells (S_api_Link.mk a0.Id r15 r7.At r7.Parent r7.Name r18 r20)))]) (i := 0) (off := 0) (cs' := (S_api_Link.cells (S_api_Link.mk a0.Id r15 r7.At r7.Parent r7.Name r18 r20))) ts57 rfl rfl rfl rfl bx rfl (by kernel_rfl) h (by kernel_rfl) (by kernel_rfl) ?_
 intro hp h bx
 refine qn ?_
 refine wpE_ret ?_
 exact body_r (S_api_Link.mk a0.Id r15 r7.At r7.Parent r7.Name r18 r20) rfl (rs_cella ts57 rfl rfl (Bx.row bx 0 0 rfl (by kernel_rfl)) rs_nil) rfl h

set_option maxHeartbeats 4000000 in
theorem join_States.lift {a0 : S_api_State} {a1 : S_api_State} {Q : S_api_State → Hp → Prop} {hp : Hp} (h : join_States a0 a1 Q hp) : CallsH Try.prog 14 #[S_api_State.enc a0, S_api_State.enc a1] hp (Rt S_api_State.enc Q) := by
 unfold join_States at h
 refine calls_of 52 Try.func14 rfl rfl ?_
 refine qs ?_
 refine wpL_boxX (vs := (S_api_State.cells a0)) rfl rfl Bx.nil h rfl ?_
 intro b1 hp h bx
 refine wpL_boxX (vs := (S_api_State.cells a1)) rfl rfl bx h rfl ?_
 intro b3 hp h bx
 refine wpL_allocX (zs := (S_api_State.cells (S_api_State.mk (A8.mk 0 0 0 0 0 0 0 0) Sl.nil Sl.nil))) tz33 rfl bx h rfl ?_
 intro b5 hp h bx
 refine qn ?_
 refine qs ?_
 refine qy rfl (y_fa fa33_0 rfl) ?_
 refine qy rfl (y_lda (cs := ((A8.cells .i64) a0.Seen)) ts29 rfl rfl (Bx.row bx 2 0 rfl (by kernel_rfl))) ?_
 refine qy rfl (y_fa fa33_0 rfl) ?_
 refine qy rfl (y_lda (cs := ((A8.cells .i64) a1.Seen)) ts29 rfl rfl (Bx.row bx 1 0 rfl (by kernel_rfl))) ?_
 refine wpL_call (vs := [A8.enc .i64 a0.Seen, A8.enc .i64 a1.Seen]) tc24 (lcons rfl (lcons rfl lnil)) (vector_Join.lift h) rfl ?_
 intro r7 hp h
 obtain ⟨kx, h⟩ := h
 replace bx := Bx.keep bx kx rfl
 refine qy rfl (y_bl (cs := S_api_State.cells (S_api_State.mk r7 Sl.nil Sl.nil)) pl33 (pcons rfl rfl) rfl) ?_
 refine wpL_allocX (zs := (S_api_State.cells (S_api_State.mk (A8.mk 0 0 0 0 0 0 0 0) Sl.nil Sl.nil))) tz33 rfl bx h rfl ?_
 intro b9 hp h bx
 refine wpL_staX (L' := [(b9, (S_api_State.cells (S_api_State.mk r7 Sl.nil Sl.nil))), (b5, (S_api_State.cells (S_api_State.mk (A8.mk 0 0 0 0 0 0 0 0) Sl.nil Sl.nil))), (b3, (S_api_State.cells a1)), (b1, (S_api_State.cells a0))]) (i := 0) (off := 0) (cs' := (S_api_State.cells (S_api_State.mk r7 Sl.nil Sl.nil))) ts33 rfl rfl rfl rfl bx rfl (by kernel_rfl) h (by kernel_rfl) (by kernel_rfl) ?_
 intro hp h bx
 refine qn ?_
 refine qs ?_
 refine qy rfl (y_fa fa33_1 rfl) ?_
 refine qy rfl (y_ld (v := (Sl.enc a0.Nodes)) ts30 rfl (Bx.cell bx 3 8 rfl (by kernel_rfl))) ?_
 refine qy rfl (y_fa fa33_1 rfl) ?_
 refine qy rfl (y_ld (v := (Sl.enc a1.Nodes)) ts30 rfl (Bx.cell bx 2 8 rfl (by kernel_rfl))) ?_
 refine wpL_call (vs := [Sl.enc a0.Nodes, Sl.enc a1.Nodes, .func (.func 26) #[] #[], .func (.func 28) #[] #[]]) tc25 (lcons rfl (lcons rfl (lcons rfl (lcons rfl lnil)))) (join_merged_api_Inode.lift (fun x0 x1 Q h hm => ⟨26, [], [], rfl, tc26, join_States_1.lift hm⟩) (fun x0 x1 Q h hm => ⟨28, [], [], rfl, tc28, join_inode.lift hm⟩) h) rfl ?_
 intro r12 hp h
 obtain ⟨kx, h⟩ := h
 replace bx := Bx.keep bx kx rfl
 refine qy rfl (y_fa fa33_1 rfl) ?_
 refine wpL_stX (L' := [(b9, (S_api_State.cells (S_api_State.mk ((S_api_State.mk r7 Sl.nil Sl.nil).Seen) r12 ((S_api_State.mk r7 Sl.nil Sl.nil).Links)))), (b5, (S_api_State.cells (S_api_State.mk (A8.mk 0 0 0 0 0 0 0 0) Sl.nil Sl.nil))), (b3, (S_api_State.cells a1)), (b1, (S_api_State.cells a0))]) (i := 0) (off := 8) ts30 rfl rfl rfl bx rfl rfl h (by kernel_rfl) ?_
 intro hp h bx
 refine qn ?_
 refine qs ?_
 refine qy rfl (y_fa fa33_2 rfl) ?_
 refine qy rfl (y_ld (v := (Sl.enc a0.Links)) ts31 rfl (Bx.cell bx 3 9 rfl (by kernel_rfl))) ?_
 refine qy rfl (y_fa fa33_2 rfl) ?_
 refine qy rfl (y_ld (v := (Sl.enc a1.Links)) ts31 rfl (Bx.cell bx 2 9 rfl (by kernel_rfl))) ?_
 refine wpL_call (vs := [Sl.enc a0.Links, Sl.enc a1.Links, .func (.func 30) #[] #[], .func (.func 31) #[] #[]]) tc29 (lcons rfl (lcons rfl (lcons rfl (lcons rfl lnil)))) (join_merged_api_Link.lift (fun x0 x1 Q h hm => ⟨30, [], [], rfl, tc30, join_States_2.lift hm⟩) (fun x0 x1 Q h hm => ⟨31, [], [], rfl, tc31, join_link.lift hm⟩) h) rfl ?_
 intro r15 hp h
 obtain ⟨kx, h⟩ := h
 replace bx := Bx.keep (bx.sub (L' := [(b9, (S_api_State.cells (S_api_State.mk ((S_api_State.mk r7 Sl.nil Sl.nil).Seen) r12 ((S_api_State.mk r7 Sl.nil Sl.nil).Links)))), (b5, (S_api_State.cells (S_api_State.mk (A8.mk 0 0 0 0 0 0 0 0) Sl.nil Sl.nil)))]) (.cons_cons _ (.cons_cons _ (.cons _ (.cons _ .slnil))))) kx rfl
 refine qy rfl (y_fa fa33_2 rfl) ?_
 refine wpL_stX (L' := [(b9, (S_api_State.cells (S_api_State.mk ((S_api_State.mk r7 Sl.nil Sl.nil).Seen) r12 r15))), (b5, (S_api_State.cells (S_api_State.mk (A8.mk 0 0 0 0 0 0 0 0) Sl.nil Sl.nil)))]) (i := 0) (off := 9) ts31 rfl rfl rfl bx rfl rfl h (by kernel_rfl) ?_
 intro hp h bx
 refine qn ?_
 refine qe ?_
 refine qs ?_
 refine qy rfl (y_fa fa33_1 rfl) ?_
 refine qy rfl (y_ld (v := (Sl.enc r12)) ts30 rfl (Bx.cell bx 0 8 rfl (by kernel_rfl))) ?_
 refine qy rfl (y_lensl Try.underlying30 (lcons rfl lnil)) ?_
 refine qm ?_
 refine qn ?_
 refine wpE_block ?_
 obtain ⟨I21, m0, h, hI21⟩ := h
 refine wpE_loop (fun m ρ hp => ∃ u18 : Int, (ρ 29 = .int .i64 u18 ∧ ρ 4 = .pointer (some b5) ∧ ρ 5 = .pointer (some b9) ∧ ρ 27 = Sl.enc r12 ∧ ρ 28 = .int .i64 (r12.len : Int) ∧ Bx hp [(b9, (S_api_State.cells (S_api_State.mk ((S_api_State.mk r7 Sl.nil Sl.nil).Seen) r12 r15))), (b5, (S_api_State.cells (S_api_State.mk (A8.mk 0 0 0 0 0 0 0 0) Sl.nil Sl.nil)))]) ∧ I21 m u18 hp) (m := m0) ⟨0, ⟨rfl, rfl, rfl, rfl, rfl, bx⟩, h⟩ ?_
 rintro m ρ hp ⟨u18, ⟨e29, e4, e5, e27, e28, bx⟩, h⟩
 replace h := hI21 m u18 hp h
 refine qs ?_
 refine qy rfl (y_bin e29 e28 (bin_lss _ _ _)) ?_
 refine qn ?_
 refine qe ?_
 refine qc rfl h (fun h => ?_) fun h => ?_
 ·refine wpE_skip ?_
  refine qb ?_
  refine qs ?_
  refine qm ?_
  obtain ⟨p220, q23, q230, q231, h⟩ := h
  generalize q239 : p220.add (_ * _) = p22 at h
  refine qy rfl (ycast_p (y_ix Try.underlying30 ts55 e27 e29 q23 q230 q231) q239) ?_
  obtain ⟨v24, c25, h⟩ := h
  refine qy rfl (y_lda ts55 rfl rfl c25) ?_
  refine wpL_allocX (zs := (S_api_Inode.cells (S_api_Inode.mk (S_api_Stamp.mk 0 0) 0 [] (S_api_Attr.mk (S_api_Stamp.mk 0 0) 0 0) (S_api_Size.mk (S_api_Stamp.mk 0 0) 0) Sl.nil Sl.nil))) tz55 rfl bx h rfl ?_
  intro b26 hp h bx
  refine qa ?_
  refine wpL_staX (L' := [(b26, (S_api_Inode.cells v24)), (b9, (S_api_State.cells (S_api_State.mk ((S_api_State.mk r7 Sl.nil Sl.nil).Seen) r12 r15))), (b5, (S_api_State.cells (S_api_State.mk (A8.mk 0 0 0 0 0 0 0 0) Sl.nil Sl.nil)))]) (i := 0) (off := 0) (cs' := (S_api_Inode.cells v24)) ts55 rfl rfl rfl rfl bx rfl (by kernel_rfl) h (by kernel_rfl) (by kernel_rfl) ?_
  intro hp h bx
  refine qn ?_
  refine wpE_draw mixed rfl ?_
  refine qU 0 rfl rfl (fun _ => y_fa fa33_1 e5) ?_
  refine qT 1 14 (fun h => Hp.cell? h (b9.add 8) = some (Sl.enc r12)) rfl rfl (Bx.cell bx 1 8 rfl (by kernel_rfl)) (fun _ c => y_ld (v := (Sl.enc r12)) ts30 rfl c) ?_
  refine qU 2 rfl rfl (fun _ => y_mv) ?_
  refine qU 3 rfl rfl (fun _ => y_fa fa33_1 e5) ?_
  refine qT 4 17 (fun h => Hp.cell? h (b9.add 8) = some (Sl.enc r12)) rfl rfl (Bx.cell bx 1 8 rfl (by kernel_rfl)) (fun _ c => y_ld (v := (Sl.enc r12)) ts30 rfl c) ?_
  refine qU 5 rfl rfl (fun _ => y_mv) ?_
  refine qU 6 rfl rfl (fun _ => y_fa fa55_5 rfl) ?_
  refine qT 7 8 (fun h => Hp.cell? h (b26.add 11) = some (Sl.enc v24.Pieces)) rfl rfl (Bx.cell bx 0 11 rfl (by kernel_rfl)) (fun _ c => y_ld (v := (Sl.enc v24.Pieces)) ts52 rfl c) ?_
  refine qU 9 rfl rfl (fun _ => y_fa fa55_6 rfl) ?_
  refine qT 10 11 (fun h => Hp.cell? h (b26.add 12) = some (Sl.enc v24.Xattrs)) rfl rfl (Bx.cell bx 0 12 rfl (by kernel_rfl)) (fun _ c => y_ld (v := (Sl.enc v24.Xattrs)) ts53 rfl c) ?_
  refine wpA_loud (rs := [8]) (by kernel_rfl) rfl ?_
  refine mcons (step_of rfl ?_) mnil
  refine wpL_call (vs := [Sl.enc v24.Pieces]) tc32 (lcons rfl lnil) (join_listed.lift h) rfl ?_
  intro r29 hp h
  obtain ⟨kx, h⟩ := h
  replace bx := Bx.keep bx kx rfl
  refine qn ?_
  refine ⟨hs_live (Bx.cell bx 0 12 rfl (by kernel_rfl)) (hs_dead rfl (hs_live (Bx.cell bx 1 8 rfl (by kernel_rfl)) (hs_live (Bx.cell bx 1 8 rfl (by kernel_rfl)) hs_nil))), ?_⟩
  refine wpA_loud (rs := [11]) (by kernel_rfl) rfl ?_
  refine mcons (step_of rfl ?_) mnil
  refine wpL_call (vs := [Sl.enc v24.Xattrs]) tc33 (lcons rfl lnil) (join_named.lift h) rfl ?_
  intro r31 hp h
  obtain ⟨kx, h⟩ := h
  replace bx := Bx.keep (bx.sub (L' := [(b9, (S_api_State.cells (S_api_State.mk ((S_api_State.mk r7 Sl.nil Sl.nil).Seen) r12 r15))), (b5, (S_api_State.cells (S_api_State.mk (A8.mk 0 0 0 0 0 0 0 0) Sl.nil Sl.nil)))]) (.cons _ (.cons_cons _ (.cons_cons _ .slnil)))) kx rfl
  refine qn ?_
  refine ⟨hs_dead rfl (hs_dead rfl (hs_live (Bx.cell bx 0 8 rfl (by kernel_rfl)) (hs_live (Bx.cell bx 0 8 rfl (by kernel_rfl)) hs_nil))), ?_⟩
  obtain ⟨p330, q34, q340, q341, h⟩ := h
  generalize q349 : p330.add (_ * _) = p33 at h
  refine qU 12 rfl rfl (fun _ => ycast_p (y_ix Try.underlying30 ts55 rfl e29 q34 q340 q341) q349) ?_
  refine qU 13 rfl rfl (fun _ => y_fa fa55_5 rfl) ?_
  refine wpA_loud (rs := [14]) (by kernel_rfl) rfl ?_
  refine mcons (step_of rfl ?_) mnil
  refine wpL_st ts52 rfl rfl rfl h ?_
  generalize Hp.setCell _ _ _ = hp
  intro h
  obtain ⟨kx, h⟩ := h
  replace bx := Bx.keep bx kx rfl
  refine qn ?_
  refine ⟨hs_dead rfl (hs_dead rfl (hs_live (Bx.cell bx 0 8 rfl (by kernel_rfl)) (hs_dead rfl hs_nil))), ?_⟩
  obtain ⟨p360, q37, q370, q371, h⟩ := h
  generalize q379 : p360.add (_ * _) = p36 at h
  refine qU 15 rfl rfl (fun _ => ycast_p (y_ix Try.underlying30 ts55 rfl e29 q37 q370 q371) q379) ?_
  refine qU 16 rfl rfl (fun _ => y_fa fa55_6 rfl) ?_
  refine wpA_loud (rs := [17]) (by kernel_rfl) rfl ?_
  refine mcons (step_of rfl ?_) mnil
  refine wpL_st ts53 rfl rfl rfl h ?_
  generalize Hp.setCell _ _ _ = hp
  intro h
  obtain ⟨kx, h⟩ := h
  replace bx := Bx.keep bx kx rfl
  refine qn ?_
  refine ⟨hs_dead rfl (hs_dead rfl (hs_dead rfl (hs_dead rfl hs_nil))), ?_⟩
  refine qt (by kernel_rfl) ?_
  refine qr ?_
  refine qy rfl (y_bin e29 rfl (bin_add _ _ _)) ?_
  refine qm ?_
  refine qn ?_
  obtain ⟨m, hm, h⟩ := h
  exact ⟨m, hm, (IntKind.wrap .i64 (u18 + (1 : Int))), ⟨rfl, e4, e5, e27, e28, bx⟩, h⟩
 ·refine wpE_exit ?_
  refine qs ?_
  refine qy rfl (y_lda (cs := (S_api_State.cells (S_api_State.mk ((S_api_State.mk r7 Sl.nil Sl.nil).Seen) r12 r15))) ts33 rfl e5 (Bx.row bx 0 0 rfl (by kernel_rfl))) ?_
  refine wpL_staX (L' := [(b9, (S_api_State.cells (S_api_State.mk ((S_api_State.mk r7 Sl.nil Sl.nil).Seen) r12 r15))), (b5, (S_api_State.cells (S_api_State.mk ((S_api_State.mk r7 Sl.nil Sl.nil).Seen) r12 r15)))]) (i := 1) (off := 0) (cs' := (S_api_State.cells (S_api_State.mk ((S_api_State.mk r7 Sl.nil Sl.nil).Seen) r12 r15))) ts33 e4 rfl rfl rfl bx rfl (by kernel_rfl) h (by kernel_rfl) (by kernel_rfl) ?_
  intro hp h bx
  refine qn ?_
  refine wpE_ret ?_
  exact body_r (S_api_State.mk ((S_api_State.mk r7 Sl.nil Sl.nil).Seen) r12 r15) rfl (rs_cella ts33 rfl e4 (Bx.row bx 1 0 rfl (by kernel_rfl)) rs_nil) rfl h

set_option maxHeartbeats 4000000 in
theorem model_Fold.lift {a0 : Sl} {Q : S_api_State → Hp → Prop} {hp : Hp} (h : model_Fold a0 Q hp) : CallsH Try.prog 7 #[Sl.enc a0] hp (Rt S_api_State.enc Q) := by
 unfold model_Fold at h
 refine calls_of 19 Try.func7 rfl rfl ?_
 refine qs ?_
 refine wpL_allocX (zs := (S_api_State.cells (S_api_State.mk (A8.mk 0 0 0 0 0 0 0 0) Sl.nil Sl.nil))) tz33 rfl Bx.nil h rfl ?_
 intro b1 hp h bx
 refine qn ?_
 refine qs ?_
 refine wpL_call (vs := []) tc11 lnil (facts_Empty.lift h) rfl ?_
 intro r3 hp h
 obtain ⟨kx, h⟩ := h
 replace bx := Bx.keep bx kx rfl
 refine wpL_allocX (zs := (S_api_State.cells (S_api_State.mk (A8.mk 0 0 0 0 0 0 0 0) Sl.nil Sl.nil))) tz33 rfl bx h rfl ?_
 intro b5 hp h bx
 refine wpL_staX (L' := [(b5, (S_api_State.cells r3)), (b1, (S_api_State.cells (S_api_State.mk (A8.mk 0 0 0 0 0 0 0 0) Sl.nil Sl.nil)))]) (i := 0) (off := 0) (cs' := (S_api_State.cells r3)) ts33 rfl rfl rfl rfl bx rfl (by kernel_rfl) h (by kernel_rfl) (by kernel_rfl) ?_
 intro hp h bx
 refine qn ?_
 refine qe ?_
 refine qs ?_
 refine qm ?_
 refine qy rfl (y_lensl Try.underlying22 (lcons rfl lnil)) ?_
 refine qm ?_
 refine qn ?_
 refine wpE_block ?_
 obtain ⟨I11, m0, h, hI11⟩ := h
 refine wpE_loop (fun m ρ hp => ∃ u8 : Int × S_api_State, (ρ 9 = .int .i64 u8.1 ∧ ρ 2 = .pointer (some b1) ∧ ρ 3 = .pointer (some b5) ∧ ρ 7 = Sl.enc a0 ∧ ρ 8 = .int .i64 (a0.len : Int) ∧ Bx hp [(b5, (S_api_State.cells u8.2)), (b1, (S_api_State.cells (S_api_State.mk (A8.mk 0 0 0 0 0 0 0 0) Sl.nil Sl.nil)))]) ∧ I11 m u8 hp) (m := m0) ⟨(0, r3), ⟨rfl, rfl, rfl, rfl, rfl, bx⟩, h⟩ ?_
 rintro m ρ hp ⟨u8, ⟨e9, e2, e3, e7, e8, bx⟩, h⟩
 replace h := hI11 m u8 hp h
 refine qs ?_
 refine qy rfl (y_bin e9 e8 (bin_lss _ _ _)) ?_
 refine qn ?_
 refine qe ?_
 refine qc rfl h (fun h => ?_) fun h => ?_
 ·refine wpE_skip ?_
  refine qb ?_
  refine qs ?_
  obtain ⟨p120, q13, q130, q131, h⟩ := h
  generalize q139 : p120.add (_ * _) = p12 at h
  refine qy rfl (ycast_p (y_ix Try.underlying22 ts35 e7 e9 q13 q130 q131) q139) ?_
  obtain ⟨v14, c15, h⟩ := h
  refine qy rfl (y_lda ts35 rfl rfl c15) ?_
  refine wpL_allocX (zs := (S_api_Event.cells (S_api_Event.mk (S_api_Stamp.mk 0 0) 0 (A8.mk 0 0 0 0 0 0 0 0) (S_api_State.mk (A8.mk 0 0 0 0 0 0 0 0) Sl.nil Sl.nil)))) tz35 rfl bx h rfl ?_
  intro b16 hp h bx
  refine wpL_staX (L' := [(b16, (S_api_Event.cells v14)), (b5, (S_api_State.cells u8.2)), (b1, (S_api_State.cells (S_api_State.mk (A8.mk 0 0 0 0 0 0 0 0) Sl.nil Sl.nil)))]) (i := 0) (off := 0) (cs' := (S_api_Event.cells v14)) ts35 rfl rfl rfl rfl bx rfl (by kernel_rfl) h (by kernel_rfl) (by kernel_rfl) ?_
  intro hp h bx
  refine qn ?_
  refine qr ?_
  refine qy rfl (y_lda (cs := (S_api_State.cells u8.2)) ts33 rfl e3 (Bx.row bx 1 0 rfl (by kernel_rfl))) ?_
  refine qy rfl (y_fa fa35_3 rfl) ?_
  refine qy rfl (y_lda (cs := (S_api_State.cells v14.Delta)) ts33 rfl rfl (Bx.row bx 0 11 rfl (by kernel_rfl))) ?_
  refine wpL_call (vs := [S_api_State.enc u8.2, S_api_State.enc v14.Delta]) tc14 (lcons rfl (lcons rfl lnil)) (join_States.lift h) rfl ?_
  intro r19 hp h
  obtain ⟨kx, h⟩ := h
  replace bx := Bx.keep (bx.sub (L' := [(b5, (S_api_State.cells u8.2)), (b1, (S_api_State.cells (S_api_State.mk (A8.mk 0 0 0 0 0 0 0 0) Sl.nil Sl.nil)))]) (.cons _ (.cons_cons _ (.cons_cons _ .slnil)))) kx rfl
  refine wpL_staX (L' := [(b5, (S_api_State.cells r19)), (b1, (S_api_State.cells (S_api_State.mk (A8.mk 0 0 0 0 0 0 0 0) Sl.nil Sl.nil)))]) (i := 0) (off := 0) (cs' := (S_api_State.cells r19)) ts33 e3 rfl rfl rfl bx rfl (by kernel_rfl) h (by kernel_rfl) (by kernel_rfl) ?_
  intro hp h bx
  refine qn ?_
  refine qr ?_
  refine qy rfl (y_bin e9 rfl (bin_add _ _ _)) ?_
  refine qm ?_
  refine qn ?_
  obtain ⟨m, hm, h⟩ := h
  exact ⟨m, hm, (IntKind.wrap .i64 (u8.1 + (1 : Int)), r19), ⟨rfl, e2, e3, e7, e8, bx⟩, h⟩
 ·refine wpE_exit ?_
  refine qs ?_
  refine qy rfl (y_lda (cs := (S_api_State.cells u8.2)) ts33 rfl e3 (Bx.row bx 0 0 rfl (by kernel_rfl))) ?_
  refine wpL_staX (L' := [(b5, (S_api_State.cells u8.2)), (b1, (S_api_State.cells u8.2))]) (i := 1) (off := 0) (cs' := (S_api_State.cells u8.2)) ts33 e2 rfl rfl rfl bx rfl (by kernel_rfl) h (by kernel_rfl) (by kernel_rfl) ?_
  intro hp h bx
  refine qn ?_
  refine wpE_ret ?_
  exact body_r u8.2 rfl (rs_cella ts33 rfl e2 (Bx.row bx 1 0 rfl (by kernel_rfl)) rs_nil) rfl h

set_option maxHeartbeats 4000000 in
theorem slices_IndexFunc_api_Event_api_Event.lift {a0 : Sl} {a1 : Value} {a1_f : S_api_Event → (Bool → Hp → Prop) → Hp → Prop} (a1_i : ∀ x0 Q h, a1_f x0 Q h → CallsV Try.prog a1 [S_api_Event.enc x0] h (Rt Value.bool Q)) {Q : Int → Hp → Prop} {hp : Hp} (h : slices_IndexFunc_api_Event_api_Event a0 a1_f Q hp) : CallsH Try.prog 34 #[Sl.enc a0, a1] hp (Rt (Value.int .i64) Q) := by
 unfold slices_IndexFunc_api_Event_api_Event at h
 refine calls_of 19 Try.func34 rfl rfl ?_
 refine qs ?_
 refine qa ?_
 refine qn ?_
 refine qe ?_
 refine qs ?_
 refine qm ?_
 refine qy rfl (y_lensl Try.underlying22 (lcons rfl lnil)) ?_
 refine qm ?_
 refine qn ?_
 refine wpE_block ?_
 obtain ⟨I4, m0, h, hI4⟩ := h
 refine wpE_loop (fun m ρ hp => ∃ u1 : Int, (ρ 8 = .int .i64 u1 ∧ ρ 0 = Sl.enc a0 ∧ ρ 1 = a1 ∧ ρ 7 = .int .i64 (a0.len : Int) ∧ True) ∧ I4 m u1 hp) (m := m0) ⟨0, ⟨rfl, rfl, rfl, rfl, trivial⟩, h⟩ ?_
 rintro m ρ hp ⟨u1, ⟨e8, e0, e1, e7, _⟩, h⟩
 replace h := hI4 m u1 hp h
 refine qs ?_
 refine qy rfl (y_bin e8 e7 (bin_lss _ _ _)) ?_
 refine qn ?_
 refine qe ?_
 refine qc rfl h (fun h => ?_) fun h => ?_
 ·refine wpE_skip ?_
  refine qb ?_
  refine qs ?_
  refine qm ?_
  refine qa ?_
  refine qn ?_
  refine qs ?_
  iterate 3 refine qm ?_
  obtain ⟨p50, q6, q60, q61, h⟩ := h
  generalize q69 : p50.add (_ * _) = p5 at h
  refine qy rfl (ycast_p (y_ix Try.underlying22 ts35 e0 e8 q6 q60 q61) q69) ?_
  obtain ⟨v7, c8, h⟩ := h
  refine qy rfl (y_lda ts35 rfl rfl c8) ?_
  refine wpL_callv e1 (lcons rfl lnil) (a1_i _ _ _ h) rfl ?_
  intro r9 hp h
  refine qn ?_
  refine qc rfl h (fun h => ?_) fun h => ?_
  ·refine qs ?_
   refine qm ?_
   refine qa ?_
   refine qn ?_
   refine wpE_ret ?_
   exact body_r u1 rfl (rs_tmp e8 rs_nil) rfl h
  ·refine wpE_skip ?_
   refine qr ?_
   refine qy rfl (y_bin e8 rfl (bin_add _ _ _)) ?_
   refine qm ?_
   refine qn ?_
   obtain ⟨m, hm, h⟩ := h
   exact ⟨m, hm, (IntKind.wrap .i64 (u1 + (1 : Int))), ⟨rfl, e0, e1, e7, trivial⟩, h⟩
 ·refine wpE_exit ?_
  refine qs ?_
  refine qa ?_
  refine qn ?_
  refine wpE_ret ?_
  exact body_r (-1) rfl (rs_tmp rfl rs_nil) rfl h

set_option maxHeartbeats 4000000 in
theorem slices_ContainsFunc_api_Event_api_Event.lift {a0 : Sl} {a1 : Value} {a1_f : S_api_Event → (Bool → Hp → Prop) → Hp → Prop} (a1_i : ∀ x0 Q h, a1_f x0 Q h → CallsV Try.prog a1 [S_api_Event.enc x0] h (Rt Value.bool Q)) {Q : Bool → Hp → Prop} {hp : Hp} (h : slices_ContainsFunc_api_Event_api_Event a0 a1_f Q hp) : CallsH Try.prog 15 #[Sl.enc a0, a1] hp (Rt Value.bool Q) := by
 unfold slices_ContainsFunc_api_Event_api_Event at h
 refine calls_of 9 Try.func15 rfl rfl ?_
 refine qs ?_
 refine qa ?_
 refine qn ?_
 refine qs ?_
 iterate 2 refine qm ?_
 refine wpL_call (vs := [Sl.enc a0, a1]) tc34 (lcons rfl (lcons rfl lnil)) (slices_IndexFunc_api_Event_api_Event.lift a1_i h) rfl ?_
 intro r1 hp h
 refine qy rfl (y_bin rfl rfl (bin_geq _ _ _)) ?_
 refine qa ?_
 refine qn ?_
 refine wpE_ret ?_
 exact body_r (decide (r1 ≥ (0 : Int))) rfl (rs_tmp rfl rs_nil) rfl h

set_option maxHeartbeats 4000000 in
theorem vector_Is.lift {a0 : S_api_Stamp} {Q : Bool → Hp → Prop} {hp : Hp} (h : vector_Is a0 Q hp) : CallsH Try.prog 37 #[S_api_Stamp.enc a0] hp (Rt Value.bool Q) := by
 unfold vector_Is at h
 refine calls_of 21 Try.func37 rfl rfl ?_
 refine qs ?_
 refine wpL_boxX (vs := (S_api_Stamp.cells a0)) rfl rfl Bx.nil h rfl ?_
 intro b1 hp h bx
 refine qa ?_
 refine qn ?_
 obtain ⟨K4, jK4, h⟩ := h
 refine wpE_seqJH K4 (fun (x3 : Bool) (ρ : Env) (hp : Hp) => ρ 2 = .bool x3 ∧ True) (fun ρ x3 hp f h => ?_) ?_
 ·obtain ⟨e2, _⟩ := f
  replace h := jK4 x3 hp h
  refine wpE_ret ?_
  exact body_r x3 rfl (rs_tmp e2 rs_nil) rfl h
 ·refine qr ?_
  refine qy rfl (y_fa fa27_0 rfl) ?_
  refine qy rfl (y_ld (v := ((Value.int .i64) a0.Time)) ts3 rfl (Bx.cell bx 0 0 rfl (by kernel_rfl))) ?_
  refine qy rfl (y_bin rfl rfl (bin_geq _ _ _)) ?_
  refine qm ?_
  refine wpL_split h (fun g6 h => ?_) (fun g6 h => ?_)
  ·refine qg rfl g6 ?_
   refine qy rfl (y_fa fa27_0 rfl) ?_
   refine qg rfl g6 ?_
   refine qy rfl (y_ld (v := ((Value.int .i64) a0.Time)) ts3 rfl (Bx.cell bx 0 0 rfl (by kernel_rfl))) ?_
   refine qg rfl g6 ?_
   refine qy rfl (y_bin rfl rfl (bin_leq _ _ _)) ?_
   refine qy rfl (y_pickt (vbool rfl g6)) ?_
   refine qm ?_
   refine wpL_split h (fun g7 h => ?_) (fun g7 h => ?_)
   ·refine qg rfl g7 ?_
    refine qy rfl (y_fa fa27_1 rfl) ?_
    refine qg rfl g7 ?_
    refine qy rfl (y_ld (v := ((Value.int .i64) a0.Who)) ts3 rfl (Bx.cell bx 0 1 rfl (by kernel_rfl))) ?_
    refine qg rfl g7 ?_
    refine qy rfl (y_bin rfl rfl (bin_geq _ _ _)) ?_
    refine qy rfl (y_pickt (vbool rfl g7)) ?_
    refine qm ?_
    refine wpL_split h (fun g8 h => ?_) (fun g8 h => ?_)
    ·refine qg rfl g8 ?_
     refine qy rfl (y_fa fa27_1 rfl) ?_
     refine qg rfl g8 ?_
     refine qy rfl (y_ld (v := ((Value.int .i64) a0.Who)) ts3 rfl (Bx.cell bx 0 1 rfl (by kernel_rfl))) ?_
     refine qg rfl g8 ?_
     refine qy rfl (y_bin rfl rfl (bin_lss _ _ _)) ?_
     refine qy rfl (y_pickt (vbool rfl g8)) ?_
     refine qa ?_
     refine qn ?_
     exact ⟨(decide (a0.Who < (8 : Int))), ⟨rfl, trivial⟩, h⟩
    ·refine qp rfl g8 ?_
     iterate 2 refine qp rfl g8 ?_
     refine qy rfl (y_pickf (vbool rfl g8)) ?_
     refine qa ?_
     refine qn ?_
     exact ⟨false, ⟨rfl, trivial⟩, h⟩
   ·refine qp rfl g7 ?_
    iterate 2 refine qp rfl g7 ?_
    refine qy rfl (y_pickf (vbool rfl g7)) ?_
    refine qm ?_
    iterate 3 refine qP rfl rfl ?_
    refine qy rfl (y_pickf rfl) ?_
    refine qa ?_
    refine qn ?_
    exact ⟨false, ⟨rfl, trivial⟩, h⟩
  ·refine qp rfl g6 ?_
   iterate 2 refine qp rfl g6 ?_
   refine qy rfl (y_pickf (vbool rfl g6)) ?_
   refine qm ?_
   iterate 3 refine qP rfl rfl ?_
   refine qy rfl (y_pickf rfl) ?_
   refine qm ?_
   iterate 3 refine qP rfl rfl ?_
   refine qy rfl (y_pickf rfl) ?_
   refine qa ?_
   refine qn ?_
   exact ⟨false, ⟨rfl, trivial⟩, h⟩

set_option maxHeartbeats 4000000 in
theorem vector_Has.lift {a0 : A8 Int} {a1 : S_api_Stamp} {Q : Bool → Hp → Prop} {hp : Hp} (h : vector_Has a0 a1 Q hp) : CallsH Try.prog 23 #[A8.enc .i64 a0, S_api_Stamp.enc a1] hp (Rt Value.bool Q) := by
 unfold vector_Has at h
 refine calls_of 16 Try.func23 rfl rfl ?_
 refine qs ?_
 refine wpL_boxX (vs := ((A8.cells .i64) a0)) rfl rfl Bx.nil h rfl ?_
 intro b1 hp h bx
 refine wpL_boxX (vs := (S_api_Stamp.cells a1)) rfl rfl bx h rfl ?_
 intro b3 hp h bx
 refine qa ?_
 refine qn ?_
 obtain ⟨K6, jK6, h⟩ := h
 refine wpE_seqJH K6 (fun (x5 : Bool) (ρ : Env) (hp : Hp) => ρ 4 = .bool x5 ∧ True) (fun ρ x5 hp f h => ?_) ?_
 ·obtain ⟨e4, _⟩ := f
  replace h := jK6 x5 hp h
  refine wpE_ret ?_
  exact body_r x5 rfl (rs_tmp e4 rs_nil) rfl h
 ·refine wpE_draw mixed rfl ?_
  refine qT 0 1 (fun h => Row h b3 (S_api_Stamp.cells a1)) rfl rfl (Bx.row bx 0 0 rfl (by kernel_rfl)) (fun _ c => y_lda (cs := (S_api_Stamp.cells a1)) ts27 rfl rfl c) ?_
  refine wpA_loud (rs := [1]) (by kernel_rfl) rfl ?_
  refine mcons (step_of rfl ?_) mnil
  refine wpL_call (vs := [S_api_Stamp.enc a1]) tc37 (lcons rfl lnil) (vector_Is.lift h) rfl ?_
  intro r8 hp h
  obtain ⟨kx, h⟩ := h
  replace bx := Bx.keep bx kx rfl
  refine qn ?_
  refine ⟨hs_dead rfl hs_nil, ?_⟩
  refine qU 2 rfl rfl (fun _ => y_mv) ?_
  refine wpA_split h (fun g10 h => ?_) (fun g10 h => ?_)
  ·refine qV 3 rfl rfl g10 (fun _ => y_fa fa27_1 rfl) ?_
   refine wpA_take (i := 4) (kk := 12) (fun h => Hp.cell? h (b3.add 1) = some ((Value.int .i64) a1.Who)) rfl rfl rfl (by kernel_rfl) (by kernel_rfl) (wt_bool rfl rfl rfl (vbool rfl g10) rfl) (fun _ _ _ _ h => h) (Bx.cell bx 0 1 rfl (by kernel_rfl)) (fun _ c => y_ld (v := ((Value.int .i64) a1.Who)) ts3 rfl c) ?_
   obtain ⟨q11, h⟩ := h
   refine qV 5 rfl rfl g10 (fun _ => y_ixaX (len := 8) Try.underlying29 ts3 rfl rfl q11) ?_
   refine wpA_take (i := 6) (kk := 12) (fun h => Hp.cell? h (b1.add (Int.toNat a1.Who * 1)) = some ((Value.int .i64) (A8.at_ a0 a1.Who))) rfl rfl rfl (by kernel_rfl) (by kernel_rfl) (wt_bool rfl rfl rfl (vbool rfl g10) rfl) (fun _ _ _ _ h => h) (Bx.ari bx 1 0 rfl (by kernel_rfl) q11) (fun _ c => y_ld (v := ((Value.int .i64) (A8.at_ a0 a1.Who))) ts3 rfl c) ?_
   refine qV 7 rfl rfl g10 (fun _ => y_fa fa27_0 rfl) ?_
   refine wpA_take (i := 8) (kk := 12) (fun h => Hp.cell? h (b3.add 0) = some ((Value.int .i64) a1.Time)) rfl rfl rfl (by kernel_rfl) (by kernel_rfl) (wt_bool rfl rfl rfl (vbool rfl g10) rfl) (fun _ _ _ _ h => h) (Bx.cell bx 0 0 rfl (by kernel_rfl)) (fun _ c => y_ld (v := ((Value.int .i64) a1.Time)) ts3 rfl c) ?_
   refine qV 9 rfl rfl g10 (fun _ => y_bin rfl rfl (bin_geq _ _ _)) ?_
   refine qU 10 rfl rfl (fun _ => y_pickt (vbool rfl g10)) ?_
   refine qU 11 rfl rfl (fun _ => y_as) ?_
   refine qt (by kernel_rfl) ?_
   exact ⟨(decide ((A8.at_ a0 a1.Who) ≥ a1.Time)), ⟨rfl, trivial⟩, h⟩
  ·refine qW 3 rfl rfl g10 ?_
   refine qW 4 rfl rfl g10 ?_
   refine qW 5 rfl rfl g10 ?_
   refine qW 6 rfl rfl g10 ?_
   refine qW 7 rfl rfl g10 ?_
   refine qW 8 rfl rfl g10 ?_
   refine qW 9 rfl rfl g10 ?_
   refine qU 10 rfl rfl (fun _ => y_pickf (vbool rfl g10)) ?_
   refine qU 11 rfl rfl (fun _ => y_as) ?_
   refine qt (by kernel_rfl) ?_
   exact ⟨false, ⟨rfl, trivial⟩, h⟩

set_option maxHeartbeats 4000000 in
theorem model_Before.lift {a0 : S_api_Event} {a1 : S_api_Event} {Q : Bool → Hp → Prop} {hp : Hp} (h : model_Before a0 a1 Q hp) : CallsH Try.prog 12 #[S_api_Event.enc a0, S_api_Event.enc a1] hp (Rt Value.bool Q) := by
 unfold model_Before at h
 refine calls_of 10 Try.func12 rfl rfl ?_
 refine qs ?_
 refine wpL_boxX (vs := (S_api_Event.cells a0)) rfl rfl Bx.nil h rfl ?_
 intro b1 hp h bx
 refine wpL_boxX (vs := (S_api_Event.cells a1)) rfl rfl bx h rfl ?_
 intro b3 hp h bx
 refine qa ?_
 refine qn ?_
 refine qs ?_
 refine qy rfl (y_fa fa35_2 rfl) ?_
 refine qy rfl (y_lda (cs := ((A8.cells .i64) a1.Knew)) ts29 rfl rfl (Bx.row bx 0 3 rfl (by kernel_rfl))) ?_
 refine qy rfl (y_fa fa35_0 rfl) ?_
 refine qy rfl (y_lda (cs := (S_api_Stamp.cells a0.At)) ts27 rfl rfl (Bx.row bx 1 0 rfl (by kernel_rfl))) ?_
 refine wpL_call (vs := [A8.enc .i64 a1.Knew, S_api_Stamp.enc a0.At]) tc23 (lcons rfl (lcons rfl lnil)) (vector_Has.lift h) rfl ?_
 intro r5 hp h
 refine qa ?_
 refine qn ?_
 refine wpE_ret ?_
 exact body_r r5 rfl (rs_tmp rfl rs_nil) rfl h

set_option maxHeartbeats 4000000 in
theorem model_Last_1.lift {a0 : S_api_Event} {c0 : Addr} {Q : Bool → Hp → Prop} {hp : Hp} (h : model_Last_1 a0 c0 Q hp) : CallsH Try.prog 16 #[S_api_Event.enc a0, .pointer (some c0)] hp (Rt Value.bool Q) := by
 unfold model_Last_1 at h
 refine calls_of 15 Try.func16 rfl rfl ?_
 refine qs ?_
 refine wpL_boxX (vs := (S_api_Event.cells a0)) rfl rfl Bx.nil h rfl ?_
 intro b1 hp h bx
 refine qa ?_
 refine qn ?_
 obtain ⟨K4, jK4, h⟩ := h
 refine wpE_seqJH K4 (fun (x3 : Bool) (ρ : Env) (hp : Hp) => ρ 3 = .bool x3 ∧ True) (fun ρ x3 hp f h => ?_) ?_
 ·obtain ⟨e3, _⟩ := f
  replace h := jK4 x3 hp h
  refine wpE_ret ?_
  exact body_r x3 rfl (rs_tmp e3 rs_nil) rfl h
 ·refine qr ?_
  refine qy rfl (y_fa fa35_0 rfl) ?_
  refine qy rfl (y_lda (cs := (S_api_Stamp.cells a0.At)) ts27 rfl rfl (Bx.row bx 0 0 rfl (by kernel_rfl))) ?_
  refine qy rfl (y_fa fa35_0 rfl) ?_
  obtain ⟨v6, c7, h⟩ := h
  refine qy rfl (y_lda ts27 rfl rfl c7) ?_
  refine qy rfl (y_bin rfl rfl (eqn27 _ _)) ?_
  refine qm ?_
  refine wpL_split h (fun g8 h => ?_) (fun g8 h => ?_)
  ·refine qg rfl g8 ?_
   refine qy rfl (y_lda (cs := (S_api_Event.cells a0)) ts35 rfl rfl (Bx.row bx 0 0 rfl (by kernel_rfl))) ?_
   refine qg rfl g8 ?_
   obtain ⟨v9, c10, h⟩ := h
   refine qy rfl (y_lda ts35 rfl rfl c10) ?_
   refine qg rfl g8 ?_
   refine wpL_call (vs := [S_api_Event.enc a0, S_api_Event.enc v9]) tc12 (lcons rfl (lcons rfl lnil)) (model_Before.lift h) rfl ?_
   intro r11 hp h
   refine qg rfl g8 ?_
   refine qy rfl (y_not rfl) ?_
   refine qy rfl (y_pickt (vbool rfl g8)) ?_
   refine qa ?_
   refine qn ?_
   exact ⟨(!r11), ⟨rfl, trivial⟩, h⟩
  ·refine qp rfl g8 ?_
   iterate 3 refine qp rfl g8 ?_
   refine qy rfl (y_pickf (vbool rfl g8)) ?_
   refine qa ?_
   refine qn ?_
   exact ⟨false, ⟨rfl, trivial⟩, h⟩

set_option maxHeartbeats 4000000 in
theorem model_Last.lift {a0 : Sl} {Q : (S_api_Event × Bool) → Hp → Prop} {hp : Hp} (h : model_Last a0 Q hp) : CallsH Try.prog 9 #[Sl.enc a0] hp (Rt (fun r : S_api_Event × Bool => .tuple #[S_api_Event.enc r.1, .bool r.2]) Q) := by
 unfold model_Last at h
 refine calls_of 19 Try.func9 rfl rfl ?_
 refine qs ?_
 refine wpL_allocX (zs := (S_api_Event.cells (S_api_Event.mk (S_api_Stamp.mk 0 0) 0 (A8.mk 0 0 0 0 0 0 0 0) (S_api_State.mk (A8.mk 0 0 0 0 0 0 0 0) Sl.nil Sl.nil)))) tz35 rfl Bx.nil h rfl ?_
 intro b1 hp h bx
 refine qa ?_
 refine qn ?_
 refine qe ?_
 refine qs ?_
 refine qm ?_
 refine qy rfl (y_lensl Try.underlying22 (lcons rfl lnil)) ?_
 refine qm ?_
 refine qn ?_
 refine wpE_block ?_
 obtain ⟨I6, m0, h, hI6⟩ := h
 refine wpE_loop (fun m ρ hp => ∃ u3 : Int × S_api_Event, (ρ 8 = .int .i64 u3.1 ∧ ρ 0 = Sl.enc a0 ∧ ρ 2 = .pointer (some b1) ∧ ρ 6 = Sl.enc a0 ∧ ρ 7 = .int .i64 (a0.len : Int) ∧ Bx hp [(b1, (S_api_Event.cells u3.2))]) ∧ I6 m u3 hp) (m := m0) ⟨(0, (S_api_Event.mk (S_api_Stamp.mk 0 0) 0 (A8.mk 0 0 0 0 0 0 0 0) (S_api_State.mk (A8.mk 0 0 0 0 0 0 0 0) Sl.nil Sl.nil))), ⟨rfl, rfl, rfl, rfl, rfl, bx⟩, h⟩ ?_
 rintro m ρ hp ⟨u3, ⟨e8, e0, e2, e6, e7, bx⟩, h⟩
 replace h := hI6 m u3 hp h
 refine qs ?_
 refine qy rfl (y_bin e8 e7 (bin_lss _ _ _)) ?_
 refine qn ?_
 refine qe ?_
 refine qc rfl h (fun h => ?_) fun h => ?_
 ·refine wpE_skip ?_
  refine qb ?_
  refine qs ?_
  obtain ⟨p70, q8, q80, q81, h⟩ := h
  generalize q89 : p70.add (_ * _) = p7 at h
  refine qy rfl (ycast_p (y_ix Try.underlying22 ts35 e6 e8 q8 q80 q81) q89) ?_
  obtain ⟨v9, c10, h⟩ := h
  refine qy rfl (y_lda ts35 rfl rfl c10) ?_
  refine wpL_alloc tz35 rfl h rfl ?_
  intro b11 hp h
  obtain ⟨kx, h⟩ := h
  replace bx := Bx.keep bx kx rfl
  refine wpL_sta ts35 rfl rfl rfl rfl h ?_
  generalize setCells _ _ _ _ = hp
  intro h
  obtain ⟨kx, h⟩ := h
  replace bx := Bx.keep bx kx rfl
  refine qn ?_
  refine qs ?_
  refine qm ?_
  refine qy rfl (y_mf lnil (lcons rfl lnil)) ?_
  refine wpL_call (vs := [Sl.enc a0, .func (.func 16) #[] #[.pointer (some b11)]]) tc15 (lcons e0 (lcons rfl lnil)) (slices_ContainsFunc_api_Event_api_Event.lift (fun x0 Q h hm => ⟨16, [], [.pointer (some b11)], rfl, tc16, model_Last_1.lift hm⟩) h) rfl ?_
  intro r14 hp h
  obtain ⟨kx, h⟩ := h
  replace bx := Bx.keep bx kx rfl
  refine qy rfl (y_not rfl) ?_
  refine qn ?_
  refine qc rfl h (fun h => ?_) fun h => ?_
  ·refine qs ?_
   obtain ⟨v16, c17, h⟩ := h
   refine qy rfl (y_lda ts35 rfl rfl c17) ?_
   refine wpL_staX (L' := [(b1, (S_api_Event.cells v16))]) (i := 0) (off := 0) (cs' := (S_api_Event.cells v16)) ts35 e2 rfl rfl rfl bx rfl (by kernel_rfl) h (by kernel_rfl) (by kernel_rfl) ?_
   intro hp h bx
   refine qa ?_
   refine qn ?_
   refine wpE_ret ?_
   exact body_r (v16, true) rfl (rs_cella ts35 rfl e2 (Bx.row bx 0 0 rfl (by kernel_rfl)) (rs_tmp rfl rs_nil)) rfl h
  ·refine wpE_skip ?_
   refine qr ?_
   refine qy rfl (y_bin e8 rfl (bin_add _ _ _)) ?_
   refine qm ?_
   refine qn ?_
   obtain ⟨m, hm, h⟩ := h
   exact ⟨m, hm, (IntKind.wrap .i64 (u3.1 + (1 : Int)), u3.2), ⟨rfl, e0, e2, e6, e7, bx⟩, h⟩
 ·refine wpE_exit ?_
  refine qs ?_
  refine qy rfl (y_bl (cs := S_api_Event.cells (S_api_Event.mk (S_api_Stamp.mk 0 0) 0 (A8.mk 0 0 0 0 0 0 0 0) (S_api_State.mk (A8.mk 0 0 0 0 0 0 0 0) Sl.nil Sl.nil))) pl35 rfl rfl) ?_
  refine wpL_staX (L' := [(b1, (S_api_Event.cells (S_api_Event.mk (S_api_Stamp.mk 0 0) 0 (A8.mk 0 0 0 0 0 0 0 0) (S_api_State.mk (A8.mk 0 0 0 0 0 0 0 0) Sl.nil Sl.nil))))]) (i := 0) (off := 0) (cs' := (S_api_Event.cells (S_api_Event.mk (S_api_Stamp.mk 0 0) 0 (A8.mk 0 0 0 0 0 0 0 0) (S_api_State.mk (A8.mk 0 0 0 0 0 0 0 0) Sl.nil Sl.nil)))) ts35 e2 rfl rfl rfl bx rfl (by kernel_rfl) h (by kernel_rfl) (by kernel_rfl) ?_
  intro hp h bx
  refine qa ?_
  refine qn ?_
  refine wpE_ret ?_
  exact body_r ((S_api_Event.mk (S_api_Stamp.mk 0 0) 0 (A8.mk 0 0 0 0 0 0 0 0) (S_api_State.mk (A8.mk 0 0 0 0 0 0 0 0) Sl.nil Sl.nil)), false) rfl (rs_cella ts35 rfl e2 (Bx.row bx 0 0 rfl (by kernel_rfl)) (rs_tmp rfl rs_nil)) rfl h

set_option maxHeartbeats 4000000 in
theorem slices_Equal_api_Link_api_Link.lift {a0 : Sl} {a1 : Sl} {Q : Bool → Hp → Prop} {hp : Hp} (h : slices_Equal_api_Link_api_Link a0 a1 Q hp) : CallsH Try.prog 17 #[Sl.enc a0, Sl.enc a1] hp (Rt Value.bool Q) := by
 unfold slices_Equal_api_Link_api_Link at h
 refine calls_of 26 Try.func17 rfl rfl ?_
 refine qs ?_
 refine qa ?_
 refine qn ?_
 refine qe ?_
 refine qs ?_
 refine qm ?_
 refine qy rfl (y_lensl Try.underlying31 (lcons rfl lnil)) ?_
 refine qm ?_
 refine qy rfl (y_lensl Try.underlying31 (lcons rfl lnil)) ?_
 refine qy rfl (y_bin rfl rfl (bin_neq _ _ _)) ?_
 refine qn ?_
 refine qc rfl h (fun h => ?_) fun h => ?_
 ·refine qs ?_
  refine qa ?_
  refine qn ?_
  refine wpE_ret ?_
  exact body_r false rfl (rs_tmp rfl rs_nil) rfl h
 ·refine wpE_skip ?_
  refine qe ?_
  refine qs ?_
  refine qm ?_
  refine qy rfl (y_lensl Try.underlying31 (lcons rfl lnil)) ?_
  refine qm ?_
  refine qn ?_
  refine wpE_block ?_
  obtain ⟨I4, m0, h, hI4⟩ := h
  refine wpE_loop (fun m ρ hp => ∃ u1 : Int, (ρ 13 = .int .i64 u1 ∧ ρ 0 = Sl.enc a0 ∧ ρ 1 = Sl.enc a1 ∧ ρ 12 = .int .i64 (a0.len : Int) ∧ True) ∧ I4 m u1 hp) (m := m0) ⟨0, ⟨rfl, rfl, rfl, rfl, trivial⟩, h⟩ ?_
  rintro m ρ hp ⟨u1, ⟨e13, e0, e1, e12, _⟩, h⟩
  replace h := hI4 m u1 hp h
  refine qs ?_
  refine qy rfl (y_bin e13 e12 (bin_lss _ _ _)) ?_
  refine qn ?_
  refine qe ?_
  refine qc rfl h (fun h => ?_) fun h => ?_
  ·refine wpE_skip ?_
   refine qb ?_
   refine qs ?_
   refine qm ?_
   refine qa ?_
   refine qn ?_
   refine qe ?_
   refine wpE_draw mixed rfl ?_
   refine qU 0 rfl rfl (fun _ => y_mv) ?_
   refine qU 1 rfl rfl (fun _ => y_mv) ?_
   obtain ⟨p50, q6, q60, q61, h⟩ := h
   generalize q69 : p50.add (_ * _) = p5 at h
   refine qU 2 rfl rfl (fun _ => ycast_p (y_ix Try.underlying31 ts57 e0 e13 q6 q60 q61) q69) ?_
   obtain ⟨v7, c8, h⟩ := h
   refine qT 3 9 (fun h => Row h p5 (S_api_Link.cells v7)) rfl rfl c8 (fun _ c => y_lda ts57 rfl rfl c) ?_
   refine qU 4 rfl rfl (fun _ => y_mv) ?_
   refine qU 5 rfl rfl (fun _ => y_mv) ?_
   obtain ⟨p90, q10, q100, q101, h⟩ := h
   generalize q109 : p90.add (_ * _) = p9 at h
   refine qU 6 rfl rfl (fun _ => ycast_p (y_ix Try.underlying31 ts57 e1 e13 q10 q100 q101) q109) ?_
   obtain ⟨v11, c12, h⟩ := h
   refine qT 7 9 (fun h => Row h p9 (S_api_Link.cells v11)) rfl rfl c12 (fun _ c => y_lda ts57 rfl rfl c) ?_
   refine qU 8 rfl rfl (fun _ => y_bin rfl rfl (eqn57 _ _)) ?_
   refine qt (by kernel_rfl) ?_
   refine qc rfl h (fun h => ?_) fun h => ?_
   ·refine qs ?_
    refine qa ?_
    refine qn ?_
    refine wpE_ret ?_
    exact body_r false rfl (rs_tmp rfl rs_nil) rfl h
   ·refine wpE_skip ?_
    refine qr ?_
    refine qy rfl (y_bin e13 rfl (bin_add _ _ _)) ?_
    refine qm ?_
    refine qn ?_
    obtain ⟨m, hm, h⟩ := h
    exact ⟨m, hm, (IntKind.wrap .i64 (u1 + (1 : Int))), ⟨rfl, e0, e1, e12, trivial⟩, h⟩
  ·refine wpE_exit ?_
   refine qs ?_
   refine qa ?_
   refine qn ?_
   refine wpE_ret ?_
   exact body_r true rfl (rs_tmp rfl rs_nil) rfl h

set_option maxHeartbeats 4000000 in
theorem slices_EqualFunc_api_Inode_api_Inode_api_Inode_api_Inode.lift {a0 : Sl} {a1 : Sl} {a2 : Value} {a2_f : S_api_Inode → S_api_Inode → (Bool → Hp → Prop) → Hp → Prop} (a2_i : ∀ x0 x1 Q h, a2_f x0 x1 Q h → CallsV Try.prog a2 [S_api_Inode.enc x0, S_api_Inode.enc x1] h (Rt Value.bool Q)) {Q : Bool → Hp → Prop} {hp : Hp} (h : slices_EqualFunc_api_Inode_api_Inode_api_Inode_api_Inode a0 a1 a2_f Q hp) : CallsH Try.prog 18 #[Sl.enc a0, Sl.enc a1, a2] hp (Rt Value.bool Q) := by
 unfold slices_EqualFunc_api_Inode_api_Inode_api_Inode_api_Inode at h
 refine calls_of 32 Try.func18 rfl rfl ?_
 refine qs ?_
 refine qa ?_
 refine qn ?_
 refine qe ?_
 refine qs ?_
 refine qm ?_
 refine qy rfl (y_lensl Try.underlying30 (lcons rfl lnil)) ?_
 refine qm ?_
 refine qy rfl (y_lensl Try.underlying30 (lcons rfl lnil)) ?_
 refine qy rfl (y_bin rfl rfl (bin_neq _ _ _)) ?_
 refine qn ?_
 refine qc rfl h (fun h => ?_) fun h => ?_
 ·refine qs ?_
  refine qa ?_
  refine qn ?_
  refine wpE_ret ?_
  exact body_r false rfl (rs_tmp rfl rs_nil) rfl h
 ·refine wpE_skip ?_
  refine qe ?_
  refine qs ?_
  refine qm ?_
  refine qy rfl (y_lensl Try.underlying30 (lcons rfl lnil)) ?_
  refine qm ?_
  refine qn ?_
  refine wpE_block ?_
  obtain ⟨I4, m0, h, hI4⟩ := h
  refine wpE_loop (fun m ρ hp => ∃ u1 : Int, (ρ 17 = .int .i64 u1 ∧ ρ 1 = Sl.enc a1 ∧ ρ 2 = a2 ∧ ρ 15 = Sl.enc a0 ∧ ρ 16 = .int .i64 (a0.len : Int) ∧ True) ∧ I4 m u1 hp) (m := m0) ⟨0, ⟨rfl, rfl, rfl, rfl, rfl, trivial⟩, h⟩ ?_
  rintro m ρ hp ⟨u1, ⟨e17, e1, e2, e15, e16, _⟩, h⟩
  replace h := hI4 m u1 hp h
  refine qs ?_
  refine qy rfl (y_bin e17 e16 (bin_lss _ _ _)) ?_
  refine qn ?_
  refine qe ?_
  refine qc rfl h (fun h => ?_) fun h => ?_
  ·refine wpE_skip ?_
   refine qb ?_
   refine qs ?_
   refine qm ?_
   obtain ⟨p50, q6, q60, q61, h⟩ := h
   generalize q69 : p50.add (_ * _) = p5 at h
   refine qy rfl (ycast_p (y_ix Try.underlying30 ts55 e15 e17 q6 q60 q61) q69) ?_
   obtain ⟨v7, c8, h⟩ := h
   refine qy rfl (y_lda ts55 rfl rfl c8) ?_
   refine wpL_allocX (zs := (S_api_Inode.cells (S_api_Inode.mk (S_api_Stamp.mk 0 0) 0 [] (S_api_Attr.mk (S_api_Stamp.mk 0 0) 0 0) (S_api_Size.mk (S_api_Stamp.mk 0 0) 0) Sl.nil Sl.nil))) tz55 rfl Bx.nil h rfl ?_
   intro b9 hp h bx
   refine qa ?_
   refine wpL_staX (L' := [(b9, (S_api_Inode.cells v7))]) (i := 0) (off := 0) (cs' := (S_api_Inode.cells v7)) ts55 rfl rfl rfl rfl bx rfl (by kernel_rfl) h (by kernel_rfl) (by kernel_rfl) ?_
   intro hp h bx
   refine qn ?_
   refine qs ?_
   iterate 2 refine qm ?_
   obtain ⟨p120, q13, q130, q131, h⟩ := h
   generalize q139 : p120.add (_ * _) = p12 at h
   refine qy rfl (ycast_p (y_ix Try.underlying30 ts55 e1 e17 q13 q130 q131) q139) ?_
   obtain ⟨v14, c15, h⟩ := h
   refine qy rfl (y_lda ts55 rfl rfl c15) ?_
   refine wpL_allocX (zs := (S_api_Inode.cells (S_api_Inode.mk (S_api_Stamp.mk 0 0) 0 [] (S_api_Attr.mk (S_api_Stamp.mk 0 0) 0 0) (S_api_Size.mk (S_api_Stamp.mk 0 0) 0) Sl.nil Sl.nil))) tz55 rfl bx h rfl ?_
   intro b16 hp h bx
   refine wpL_staX (L' := [(b16, (S_api_Inode.cells v14)), (b9, (S_api_Inode.cells v7))]) (i := 0) (off := 0) (cs' := (S_api_Inode.cells v14)) ts55 rfl rfl rfl rfl bx rfl (by kernel_rfl) h (by kernel_rfl) (by kernel_rfl) ?_
   intro hp h bx
   refine qn ?_
   refine qs ?_
   refine qm ?_
   refine qy rfl (y_lda (cs := (S_api_Inode.cells v7)) ts55 rfl rfl (Bx.row bx 1 0 rfl (by kernel_rfl))) ?_
   refine qy rfl (y_lda (cs := (S_api_Inode.cells v14)) ts55 rfl rfl (Bx.row bx 0 0 rfl (by kernel_rfl))) ?_
   refine wpL_callv e2 (lcons rfl (lcons rfl lnil)) (a2_i _ _ _ _ h) rfl ?_
   intro r19 hp h
   refine qy rfl (y_not rfl) ?_
   refine qn ?_
   refine qc rfl h (fun h => ?_) fun h => ?_
   ·refine qs ?_
    refine qa ?_
    refine qn ?_
    refine wpE_ret ?_
    exact body_r false rfl (rs_tmp rfl rs_nil) rfl h
   ·refine wpE_skip ?_
    refine qr ?_
    refine qy rfl (y_bin e17 rfl (bin_add _ _ _)) ?_
    refine qm ?_
    refine qn ?_
    obtain ⟨m, hm, h⟩ := h
    exact ⟨m, hm, (IntKind.wrap .i64 (u1 + (1 : Int))), ⟨rfl, e1, e2, e15, e16, trivial⟩, h⟩
  ·refine wpE_exit ?_
   refine qs ?_
   refine qa ?_
   refine qn ?_
   refine wpE_ret ?_
   exact body_r true rfl (rs_tmp rfl rs_nil) rfl h

set_option maxHeartbeats 4000000 in
theorem slices_Equal_api_Piece_api_Piece.lift {a0 : Sl} {a1 : Sl} {Q : Bool → Hp → Prop} {hp : Hp} (h : slices_Equal_api_Piece_api_Piece a0 a1 Q hp) : CallsH Try.prog 20 #[Sl.enc a0, Sl.enc a1] hp (Rt Value.bool Q) := by
 unfold slices_Equal_api_Piece_api_Piece at h
 refine calls_of 26 Try.func20 rfl rfl ?_
 refine qs ?_
 refine qa ?_
 refine qn ?_
 refine qe ?_
 refine qs ?_
 refine qm ?_
 refine qy rfl (y_lensl Try.underlying52 (lcons rfl lnil)) ?_
 refine qm ?_
 refine qy rfl (y_lensl Try.underlying52 (lcons rfl lnil)) ?_
 refine qy rfl (y_bin rfl rfl (bin_neq _ _ _)) ?_
 refine qn ?_
 refine qc rfl h (fun h => ?_) fun h => ?_
 ·refine qs ?_
  refine qa ?_
  refine qn ?_
  refine wpE_ret ?_
  exact body_r false rfl (rs_tmp rfl rs_nil) rfl h
 ·refine wpE_skip ?_
  refine qe ?_
  refine qs ?_
  refine qm ?_
  refine qy rfl (y_lensl Try.underlying52 (lcons rfl lnil)) ?_
  refine qm ?_
  refine qn ?_
  refine wpE_block ?_
  obtain ⟨I4, m0, h, hI4⟩ := h
  refine wpE_loop (fun m ρ hp => ∃ u1 : Int, (ρ 13 = .int .i64 u1 ∧ ρ 0 = Sl.enc a0 ∧ ρ 1 = Sl.enc a1 ∧ ρ 12 = .int .i64 (a0.len : Int) ∧ True) ∧ I4 m u1 hp) (m := m0) ⟨0, ⟨rfl, rfl, rfl, rfl, trivial⟩, h⟩ ?_
  rintro m ρ hp ⟨u1, ⟨e13, e0, e1, e12, _⟩, h⟩
  replace h := hI4 m u1 hp h
  refine qs ?_
  refine qy rfl (y_bin e13 e12 (bin_lss _ _ _)) ?_
  refine qn ?_
  refine qe ?_
  refine qc rfl h (fun h => ?_) fun h => ?_
  ·refine wpE_skip ?_
   refine qb ?_
   refine qs ?_
   refine qm ?_
   refine qa ?_
   refine qn ?_
   refine qe ?_
   refine wpE_draw mixed rfl ?_
   refine qU 0 rfl rfl (fun _ => y_mv) ?_
   refine qU 1 rfl rfl (fun _ => y_mv) ?_
   obtain ⟨p50, q6, q60, q61, h⟩ := h
   generalize q69 : p50.add (_ * _) = p5 at h
   refine qU 2 rfl rfl (fun _ => ycast_p (y_ix Try.underlying52 ts60 e0 e13 q6 q60 q61) q69) ?_
   obtain ⟨v7, c8, h⟩ := h
   refine qT 3 9 (fun h => Row h p5 (S_api_Piece.cells v7)) rfl rfl c8 (fun _ c => y_lda ts60 rfl rfl c) ?_
   refine qU 4 rfl rfl (fun _ => y_mv) ?_
   refine qU 5 rfl rfl (fun _ => y_mv) ?_
   obtain ⟨p90, q10, q100, q101, h⟩ := h
   generalize q109 : p90.add (_ * _) = p9 at h
   refine qU 6 rfl rfl (fun _ => ycast_p (y_ix Try.underlying52 ts60 e1 e13 q10 q100 q101) q109) ?_
   obtain ⟨v11, c12, h⟩ := h
   refine qT 7 9 (fun h => Row h p9 (S_api_Piece.cells v11)) rfl rfl c12 (fun _ c => y_lda ts60 rfl rfl c) ?_
   refine qU 8 rfl rfl (fun _ => y_bin rfl rfl (eqn60 _ _)) ?_
   refine qt (by kernel_rfl) ?_
   refine qc rfl h (fun h => ?_) fun h => ?_
   ·refine qs ?_
    refine qa ?_
    refine qn ?_
    refine wpE_ret ?_
    exact body_r false rfl (rs_tmp rfl rs_nil) rfl h
   ·refine wpE_skip ?_
    refine qr ?_
    refine qy rfl (y_bin e13 rfl (bin_add _ _ _)) ?_
    refine qm ?_
    refine qn ?_
    obtain ⟨m, hm, h⟩ := h
    exact ⟨m, hm, (IntKind.wrap .i64 (u1 + (1 : Int))), ⟨rfl, e0, e1, e12, trivial⟩, h⟩
  ·refine wpE_exit ?_
   refine qs ?_
   refine qa ?_
   refine qn ?_
   refine wpE_ret ?_
   exact body_r true rfl (rs_tmp rfl rs_nil) rfl h

set_option maxHeartbeats 4000000 in
theorem slices_Equal_api_Xattr_api_Xattr.lift {a0 : Sl} {a1 : Sl} {Q : Bool → Hp → Prop} {hp : Hp} (h : slices_Equal_api_Xattr_api_Xattr a0 a1 Q hp) : CallsH Try.prog 21 #[Sl.enc a0, Sl.enc a1] hp (Rt Value.bool Q) := by
 unfold slices_Equal_api_Xattr_api_Xattr at h
 refine calls_of 26 Try.func21 rfl rfl ?_
 refine qs ?_
 refine qa ?_
 refine qn ?_
 refine qe ?_
 refine qs ?_
 refine qm ?_
 refine qy rfl (y_lensl Try.underlying53 (lcons rfl lnil)) ?_
 refine qm ?_
 refine qy rfl (y_lensl Try.underlying53 (lcons rfl lnil)) ?_
 refine qy rfl (y_bin rfl rfl (bin_neq _ _ _)) ?_
 refine qn ?_
 refine qc rfl h (fun h => ?_) fun h => ?_
 ·refine qs ?_
  refine qa ?_
  refine qn ?_
  refine wpE_ret ?_
  exact body_r false rfl (rs_tmp rfl rs_nil) rfl h
 ·refine wpE_skip ?_
  refine qe ?_
  refine qs ?_
  refine qm ?_
  refine qy rfl (y_lensl Try.underlying53 (lcons rfl lnil)) ?_
  refine qm ?_
  refine qn ?_
  refine wpE_block ?_
  obtain ⟨I4, m0, h, hI4⟩ := h
  refine wpE_loop (fun m ρ hp => ∃ u1 : Int, (ρ 13 = .int .i64 u1 ∧ ρ 0 = Sl.enc a0 ∧ ρ 1 = Sl.enc a1 ∧ ρ 12 = .int .i64 (a0.len : Int) ∧ True) ∧ I4 m u1 hp) (m := m0) ⟨0, ⟨rfl, rfl, rfl, rfl, trivial⟩, h⟩ ?_
  rintro m ρ hp ⟨u1, ⟨e13, e0, e1, e12, _⟩, h⟩
  replace h := hI4 m u1 hp h
  refine qs ?_
  refine qy rfl (y_bin e13 e12 (bin_lss _ _ _)) ?_
  refine qn ?_
  refine qe ?_
  refine qc rfl h (fun h => ?_) fun h => ?_
  ·refine wpE_skip ?_
   refine qb ?_
   refine qs ?_
   refine qm ?_
   refine qa ?_
   refine qn ?_
   refine qe ?_
   refine wpE_draw mixed rfl ?_
   refine qU 0 rfl rfl (fun _ => y_mv) ?_
   refine qU 1 rfl rfl (fun _ => y_mv) ?_
   obtain ⟨p50, q6, q60, q61, h⟩ := h
   generalize q69 : p50.add (_ * _) = p5 at h
   refine qU 2 rfl rfl (fun _ => ycast_p (y_ix Try.underlying53 ts62 e0 e13 q6 q60 q61) q69) ?_
   obtain ⟨v7, c8, h⟩ := h
   refine qT 3 9 (fun h => Row h p5 (S_api_Xattr.cells v7)) rfl rfl c8 (fun _ c => y_lda ts62 rfl rfl c) ?_
   refine qU 4 rfl rfl (fun _ => y_mv) ?_
   refine qU 5 rfl rfl (fun _ => y_mv) ?_
   obtain ⟨p90, q10, q100, q101, h⟩ := h
   generalize q109 : p90.add (_ * _) = p9 at h
   refine qU 6 rfl rfl (fun _ => ycast_p (y_ix Try.underlying53 ts62 e1 e13 q10 q100 q101) q109) ?_
   obtain ⟨v11, c12, h⟩ := h
   refine qT 7 9 (fun h => Row h p9 (S_api_Xattr.cells v11)) rfl rfl c12 (fun _ c => y_lda ts62 rfl rfl c) ?_
   refine qU 8 rfl rfl (fun _ => y_bin rfl rfl (eqn62 _ _)) ?_
   refine qt (by kernel_rfl) ?_
   refine qc rfl h (fun h => ?_) fun h => ?_
   ·refine qs ?_
    refine qa ?_
    refine qn ?_
    refine wpE_ret ?_
    exact body_r false rfl (rs_tmp rfl rs_nil) rfl h
   ·refine wpE_skip ?_
    refine qr ?_
    refine qy rfl (y_bin e13 rfl (bin_add _ _ _)) ?_
    refine qm ?_
    refine qn ?_
    obtain ⟨m, hm, h⟩ := h
    exact ⟨m, hm, (IntKind.wrap .i64 (u1 + (1 : Int))), ⟨rfl, e0, e1, e12, trivial⟩, h⟩
  ·refine wpE_exit ?_
   refine qs ?_
   refine qa ?_
   refine qn ?_
   refine wpE_ret ?_
   exact body_r true rfl (rs_tmp rfl rs_nil) rfl h

set_option maxHeartbeats 4000000 in
theorem facts_Same_1.lift {a0 : S_api_Inode} {a1 : S_api_Inode} {Q : Bool → Hp → Prop} {hp : Hp} (h : facts_Same_1 a0 a1 Q hp) : CallsH Try.prog 19 #[S_api_Inode.enc a0, S_api_Inode.enc a1] hp (Rt Value.bool Q) := by
 unfold facts_Same_1 at h
 refine calls_of 52 Try.func19 rfl rfl ?_
 refine qs ?_
 refine wpL_boxX (vs := (S_api_Inode.cells a0)) rfl rfl Bx.nil h rfl ?_
 intro b1 hp h bx
 refine wpL_boxX (vs := (S_api_Inode.cells a1)) rfl rfl bx h rfl ?_
 intro b3 hp h bx
 refine qa ?_
 refine qn ?_
 obtain ⟨K6, jK6, h⟩ := h
 refine wpE_seqJH K6 (fun (x5 : Bool) (ρ : Env) (hp : Hp) => ρ 4 = .bool x5 ∧ True) (fun ρ x5 hp f h => ?_) ?_
 ·obtain ⟨e4, _⟩ := f
  replace h := jK6 x5 hp h
  refine wpE_ret ?_
  exact body_r x5 rfl (rs_tmp e4 rs_nil) rfl h
 ·refine qr ?_
  refine qy rfl (y_fa fa55_0 rfl) ?_
  refine qy rfl (y_lda (cs := (S_api_Stamp.cells a0.Id)) ts27 rfl rfl (Bx.row bx 1 0 rfl (by kernel_rfl))) ?_
  refine qy rfl (y_fa fa55_0 rfl) ?_
  refine qy rfl (y_lda (cs := (S_api_Stamp.cells a1.Id)) ts27 rfl rfl (Bx.row bx 0 0 rfl (by kernel_rfl))) ?_
  refine qy rfl (y_bin rfl rfl (eq27 _ _)) ?_
  refine qm ?_
  refine wpL_split h (fun g8 h => ?_) (fun g8 h => ?_)
  ·refine qg rfl g8 ?_
   refine qy rfl (y_fa fa55_1 rfl) ?_
   refine qg rfl g8 ?_
   refine qy rfl (y_ld (v := ((Value.int .i64) a0.Kind)) ts3 rfl (Bx.cell bx 1 2 rfl (by kernel_rfl))) ?_
   refine qg rfl g8 ?_
   refine qy rfl (y_fa fa55_1 rfl) ?_
   refine qg rfl g8 ?_
   refine qy rfl (y_ld (v := ((Value.int .i64) a1.Kind)) ts3 rfl (Bx.cell bx 0 2 rfl (by kernel_rfl))) ?_
   refine qg rfl g8 ?_
   refine qy rfl (y_bin rfl rfl (bin_eql _ _ _)) ?_
   refine qy rfl (y_pickt (vbool rfl g8)) ?_
   refine qm ?_
   refine wpL_split h (fun g9 h => ?_) (fun g9 h => ?_)
   ·refine qg rfl g9 ?_
    refine qy rfl (y_fa fa55_2 rfl) ?_
    refine qg rfl g9 ?_
    refine qy rfl (y_ld (v := (vS a0.Text)) ts9 rfl (Bx.cell bx 1 3 rfl (by kernel_rfl))) ?_
    refine qg rfl g9 ?_
    refine qy rfl (y_fa fa55_2 rfl) ?_
    refine qg rfl g9 ?_
    refine qy rfl (y_ld (v := (vS a1.Text)) ts9 rfl (Bx.cell bx 0 3 rfl (by kernel_rfl))) ?_
    refine qg rfl g9 ?_
    refine qy rfl (y_bin rfl rfl (bin_seql _ _)) ?_
    refine qy rfl (y_pickt (vbool rfl g9)) ?_
    refine qm ?_
    refine wpL_split h (fun g10 h => ?_) (fun g10 h => ?_)
    ·refine qg rfl g10 ?_
     refine qy rfl (y_fa fa55_3 rfl) ?_
     refine qg rfl g10 ?_
     refine qy rfl (y_lda (cs := (S_api_Attr.cells a0.Attr)) ts49 rfl rfl (Bx.row bx 1 4 rfl (by kernel_rfl))) ?_
     refine qg rfl g10 ?_
     refine qy rfl (y_fa fa55_3 rfl) ?_
     refine qg rfl g10 ?_
     refine qy rfl (y_lda (cs := (S_api_Attr.cells a1.Attr)) ts49 rfl rfl (Bx.row bx 0 4 rfl (by kernel_rfl))) ?_
     refine qg rfl g10 ?_
     refine qy rfl (y_bin rfl rfl (eq49 _ _)) ?_
     refine qy rfl (y_pickt (vbool rfl g10)) ?_
     refine qm ?_
     refine wpL_split h (fun g11 h => ?_) (fun g11 h => ?_)
     ·refine qg rfl g11 ?_
      refine qy rfl (y_fa fa55_4 rfl) ?_
      refine qg rfl g11 ?_
      refine qy rfl (y_lda (cs := (S_api_Size.cells a0.Size)) ts51 rfl rfl (Bx.row bx 1 8 rfl (by kernel_rfl))) ?_
      refine qg rfl g11 ?_
      refine qy rfl (y_fa fa55_4 rfl) ?_
      refine qg rfl g11 ?_
      refine qy rfl (y_lda (cs := (S_api_Size.cells a1.Size)) ts51 rfl rfl (Bx.row bx 0 8 rfl (by kernel_rfl))) ?_
      refine qg rfl g11 ?_
      refine qy rfl (y_bin rfl rfl (eq51 _ _)) ?_
      refine qy rfl (y_pickt (vbool rfl g11)) ?_
      refine qm ?_
      refine wpL_split h (fun g12 h => ?_) (fun g12 h => ?_)
      ·refine qg rfl g12 ?_
       refine qy rfl (y_fa fa55_5 rfl) ?_
       refine qg rfl g12 ?_
       refine qy rfl (y_ld (v := (Sl.enc a0.Pieces)) ts52 rfl (Bx.cell bx 1 11 rfl (by kernel_rfl))) ?_
       refine qg rfl g12 ?_
       refine qy rfl (y_fa fa55_5 rfl) ?_
       refine qg rfl g12 ?_
       refine qy rfl (y_ld (v := (Sl.enc a1.Pieces)) ts52 rfl (Bx.cell bx 0 11 rfl (by kernel_rfl))) ?_
       refine qg rfl g12 ?_
       refine wpL_call (vs := [Sl.enc a0.Pieces, Sl.enc a1.Pieces]) tc20 (lcons rfl (lcons rfl lnil)) (slices_Equal_api_Piece_api_Piece.lift h) rfl ?_
       intro r13 hp h
       obtain ⟨kx, h⟩ := h
       replace bx := Bx.keep bx kx rfl
       refine qy rfl (y_pickt (vbool rfl g12)) ?_
       refine qm ?_
       refine wpL_split h (fun g15 h => ?_) (fun g15 h => ?_)
       ·refine qg rfl g15 ?_
        refine qy rfl (y_fa fa55_6 rfl) ?_
        refine qg rfl g15 ?_
        refine qy rfl (y_ld (v := (Sl.enc a0.Xattrs)) ts53 rfl (Bx.cell bx 1 12 rfl (by kernel_rfl))) ?_
        refine qg rfl g15 ?_
        refine qy rfl (y_fa fa55_6 rfl) ?_
        refine qg rfl g15 ?_
        refine qy rfl (y_ld (v := (Sl.enc a1.Xattrs)) ts53 rfl (Bx.cell bx 0 12 rfl (by kernel_rfl))) ?_
        refine qg rfl g15 ?_
        refine wpL_call (vs := [Sl.enc a0.Xattrs, Sl.enc a1.Xattrs]) tc21 (lcons rfl (lcons rfl lnil)) (slices_Equal_api_Xattr_api_Xattr.lift h) rfl ?_
        intro r16 hp h
        refine qy rfl (y_pickt (vbool rfl g15)) ?_
        refine qa ?_
        refine qn ?_
        exact ⟨r16, ⟨rfl, trivial⟩, h⟩
       ·refine qp rfl g15 ?_
        iterate 4 refine qp rfl g15 ?_
        refine qy rfl (y_pickf (vbool rfl g15)) ?_
        refine qa ?_
        refine qn ?_
        exact ⟨false, ⟨rfl, trivial⟩, h⟩
      ·refine qp rfl g12 ?_
       iterate 4 refine qp rfl g12 ?_
       refine qy rfl (y_pickf (vbool rfl g12)) ?_
       refine qm ?_
       iterate 5 refine qP rfl rfl ?_
       refine qy rfl (y_pickf rfl) ?_
       refine qa ?_
       refine qn ?_
       exact ⟨false, ⟨rfl, trivial⟩, h⟩
     ·refine qp rfl g11 ?_
      iterate 4 refine qp rfl g11 ?_
      refine qy rfl (y_pickf (vbool rfl g11)) ?_
      refine qm ?_
      iterate 5 refine qP rfl rfl ?_
      refine qy rfl (y_pickf rfl) ?_
      refine qm ?_
      iterate 5 refine qP rfl rfl ?_
      refine qy rfl (y_pickf rfl) ?_
      refine qa ?_
      refine qn ?_
      exact ⟨false, ⟨rfl, trivial⟩, h⟩
    ·refine qp rfl g10 ?_
     iterate 4 refine qp rfl g10 ?_
     refine qy rfl (y_pickf (vbool rfl g10)) ?_
     refine qm ?_
     iterate 5 refine qP rfl rfl ?_
     refine qy rfl (y_pickf rfl) ?_
     refine qm ?_
     iterate 5 refine qP rfl rfl ?_
     refine qy rfl (y_pickf rfl) ?_
     refine qm ?_
     iterate 5 refine qP rfl rfl ?_
     refine qy rfl (y_pickf rfl) ?_
     refine qa ?_
     refine qn ?_
     exact ⟨false, ⟨rfl, trivial⟩, h⟩
   ·refine qp rfl g9 ?_
    iterate 4 refine qp rfl g9 ?_
    refine qy rfl (y_pickf (vbool rfl g9)) ?_
    refine qm ?_
    iterate 5 refine qP rfl rfl ?_
    refine qy rfl (y_pickf rfl) ?_
    refine qm ?_
    iterate 5 refine qP rfl rfl ?_
    refine qy rfl (y_pickf rfl) ?_
    refine qm ?_
    iterate 5 refine qP rfl rfl ?_
    refine qy rfl (y_pickf rfl) ?_
    refine qm ?_
    iterate 5 refine qP rfl rfl ?_
    refine qy rfl (y_pickf rfl) ?_
    refine qa ?_
    refine qn ?_
    exact ⟨false, ⟨rfl, trivial⟩, h⟩
  ·refine qp rfl g8 ?_
   iterate 4 refine qp rfl g8 ?_
   refine qy rfl (y_pickf (vbool rfl g8)) ?_
   refine qm ?_
   iterate 5 refine qP rfl rfl ?_
   refine qy rfl (y_pickf rfl) ?_
   refine qm ?_
   iterate 5 refine qP rfl rfl ?_
   refine qy rfl (y_pickf rfl) ?_
   refine qm ?_
   iterate 5 refine qP rfl rfl ?_
   refine qy rfl (y_pickf rfl) ?_
   refine qm ?_
   iterate 5 refine qP rfl rfl ?_
   refine qy rfl (y_pickf rfl) ?_
   refine qm ?_
   iterate 5 refine qP rfl rfl ?_
   refine qy rfl (y_pickf rfl) ?_
   refine qa ?_
   refine qn ?_
   exact ⟨false, ⟨rfl, trivial⟩, h⟩

set_option maxHeartbeats 4000000 in
theorem facts_Same.lift {a0 : S_api_State} {a1 : S_api_State} {Q : Bool → Hp → Prop} {hp : Hp} (h : facts_Same a0 a1 Q hp) : CallsH Try.prog 10 #[S_api_State.enc a0, S_api_State.enc a1] hp (Rt Value.bool Q) := by
 unfold facts_Same at h
 refine calls_of 24 Try.func10 rfl rfl ?_
 refine qs ?_
 refine wpL_boxX (vs := (S_api_State.cells a0)) rfl rfl Bx.nil h rfl ?_
 intro b1 hp h bx
 refine wpL_boxX (vs := (S_api_State.cells a1)) rfl rfl bx h rfl ?_
 intro b3 hp h bx
 refine qa ?_
 refine qn ?_
 obtain ⟨K6, jK6, h⟩ := h
 refine wpE_seqJH K6 (fun (x5 : Bool) (ρ : Env) (hp : Hp) => ρ 4 = .bool x5 ∧ True) (fun ρ x5 hp f h => ?_) ?_
 ·obtain ⟨e4, _⟩ := f
  replace h := jK6 x5 hp h
  refine wpE_ret ?_
  exact body_r x5 rfl (rs_tmp e4 rs_nil) rfl h
 ·refine qr ?_
  refine qy rfl (y_fa fa33_0 rfl) ?_
  refine qy rfl (y_lda (cs := ((A8.cells .i64) a0.Seen)) ts29 rfl rfl (Bx.row bx 1 0 rfl (by kernel_rfl))) ?_
  refine qy rfl (y_fa fa33_0 rfl) ?_
  refine qy rfl (y_lda (cs := ((A8.cells .i64) a1.Seen)) ts29 rfl rfl (Bx.row bx 0 0 rfl (by kernel_rfl))) ?_
  refine qy rfl (y_bin rfl rfl (eq29 _ _)) ?_
  refine qm ?_
  refine wpL_split h (fun g8 h => ?_) (fun g8 h => ?_)
  ·refine qg rfl g8 ?_
   refine qy rfl (y_fa fa33_2 rfl) ?_
   refine qg rfl g8 ?_
   refine qy rfl (y_ld (v := (Sl.enc a0.Links)) ts31 rfl (Bx.cell bx 1 9 rfl (by kernel_rfl))) ?_
   refine qg rfl g8 ?_
   refine qy rfl (y_fa fa33_2 rfl) ?_
   refine qg rfl g8 ?_
   refine qy rfl (y_ld (v := (Sl.enc a1.Links)) ts31 rfl (Bx.cell bx 0 9 rfl (by kernel_rfl))) ?_
   refine qg rfl g8 ?_
   refine wpL_call (vs := [Sl.enc a0.Links, Sl.enc a1.Links]) tc17 (lcons rfl (lcons rfl lnil)) (slices_Equal_api_Link_api_Link.lift h) rfl ?_
   intro r9 hp h
   obtain ⟨kx, h⟩ := h
   replace bx := Bx.keep bx kx rfl
   refine qy rfl (y_pickt (vbool rfl g8)) ?_
   refine qm ?_
   refine wpL_split h (fun g11 h => ?_) (fun g11 h => ?_)
   ·refine qg rfl g11 ?_
    refine qy rfl (y_fa fa33_1 rfl) ?_
    refine qg rfl g11 ?_
    refine qy rfl (y_ld (v := (Sl.enc a0.Nodes)) ts30 rfl (Bx.cell bx 1 8 rfl (by kernel_rfl))) ?_
    refine qg rfl g11 ?_
    refine qy rfl (y_fa fa33_1 rfl) ?_
    refine qg rfl g11 ?_
    refine qy rfl (y_ld (v := (Sl.enc a1.Nodes)) ts30 rfl (Bx.cell bx 0 8 rfl (by kernel_rfl))) ?_
    refine qg rfl g11 ?_
    refine wpL_call (vs := [Sl.enc a0.Nodes, Sl.enc a1.Nodes, .func (.func 19) #[] #[]]) tc18 (lcons rfl (lcons rfl (lcons rfl lnil))) (slices_EqualFunc_api_Inode_api_Inode_api_Inode_api_Inode.lift (fun x0 x1 Q h hm => ⟨19, [], [], rfl, tc19, facts_Same_1.lift hm⟩) h) rfl ?_
    intro r12 hp h
    refine qy rfl (y_pickt (vbool rfl g11)) ?_
    refine qa ?_
    refine qn ?_
    exact ⟨r12, ⟨rfl, trivial⟩, h⟩
   ·refine qp rfl g11 ?_
    iterate 4 refine qp rfl g11 ?_
    refine qy rfl (y_pickf (vbool rfl g11)) ?_
    refine qa ?_
    refine qn ?_
    exact ⟨false, ⟨rfl, trivial⟩, h⟩
  ·refine qp rfl g8 ?_
   iterate 4 refine qp rfl g8 ?_
   refine qy rfl (y_pickf (vbool rfl g8)) ?_
   refine qm ?_
   iterate 5 refine qP rfl rfl ?_
   refine qy rfl (y_pickf rfl) ?_
   refine qa ?_
   refine qn ?_
   exact ⟨false, ⟨rfl, trivial⟩, h⟩

set_option maxHeartbeats 4000000 in
theorem crannoglaw22_awake.lift  {Q : Bool → Hp → Prop} {hp : Hp} (h : crannoglaw22_awake Q hp) : CallsH Try.prog 5 #[] hp (Rt Value.bool Q) := by
 unfold crannoglaw22_awake at h
 refine calls_of 41 Try.func5 rfl rfl ?_
 refine qs ?_
 refine qa ?_
 refine qn ?_
 refine qs ?_
 refine qy rfl (y_bl (cs := S_api_Stamp.cells (S_api_Stamp.mk 1 0)) pl27 (pcons rfl rfl) rfl) ?_
 refine qy rfl (y_bl (cs := S_api_Event.cells (S_api_Event.mk (S_api_Stamp.mk 1 0) 0 (A8.mk 0 0 0 0 0 0 0 0) (S_api_State.mk (A8.mk 0 0 0 0 0 0 0 0) Sl.nil Sl.nil))) pl35 (pcons rfl rfl) rfl) ?_
 refine wpL_allocX (zs := (S_api_Event.cells (S_api_Event.mk (S_api_Stamp.mk 0 0) 0 (A8.mk 0 0 0 0 0 0 0 0) (S_api_State.mk (A8.mk 0 0 0 0 0 0 0 0) Sl.nil Sl.nil)))) tz35 rfl Bx.nil h rfl ?_
 intro b1 hp h bx
 refine wpL_staX (L' := [(b1, (S_api_Event.cells (S_api_Event.mk (S_api_Stamp.mk 1 0) 0 (A8.mk 0 0 0 0 0 0 0 0) (S_api_State.mk (A8.mk 0 0 0 0 0 0 0 0) Sl.nil Sl.nil))))]) (i := 0) (off := 0) (cs' := (S_api_Event.cells (S_api_Event.mk (S_api_Stamp.mk 1 0) 0 (A8.mk 0 0 0 0 0 0 0 0) (S_api_State.mk (A8.mk 0 0 0 0 0 0 0 0) Sl.nil Sl.nil)))) ts35 rfl rfl rfl rfl bx rfl (by kernel_rfl) h (by kernel_rfl) (by kernel_rfl) ?_
 intro hp h bx
 refine qn ?_
 refine qs ?_
 refine qy rfl (y_bl (cs := S_api_Stamp.cells (S_api_Stamp.mk 2 1)) pl27 (pcons rfl (pcons rfl rfl)) rfl) ?_
 refine qy rfl (y_bla (cs := [.int .i64 1, .int .i64 0, .int .i64 0, .int .i64 0, .int .i64 0, .int .i64 0, .int .i64 0, .int .i64 0]) bla29 (pcons rfl rfl) rfl) ?_
 refine qy rfl (y_bl (cs := S_api_Event.cells (S_api_Event.mk (S_api_Stamp.mk 2 1) 0 (A8.mk 1 0 0 0 0 0 0 0) (S_api_State.mk (A8.mk 0 0 0 0 0 0 0 0) Sl.nil Sl.nil))) pl35 (pcons rfl (pcons rfl rfl)) rfl) ?_
 refine wpL_allocX (zs := (S_api_Event.cells (S_api_Event.mk (S_api_Stamp.mk 0 0) 0 (A8.mk 0 0 0 0 0 0 0 0) (S_api_State.mk (A8.mk 0 0 0 0 0 0 0 0) Sl.nil Sl.nil)))) tz35 rfl bx h rfl ?_
 intro b4 hp h bx
 refine wpL_staX (L' := [(b4, (S_api_Event.cells (S_api_Event.mk (S_api_Stamp.mk 2 1) 0 (A8.mk 1 0 0 0 0 0 0 0) (S_api_State.mk (A8.mk 0 0 0 0 0 0 0 0) Sl.nil Sl.nil)))), (b1, (S_api_Event.cells (S_api_Event.mk (S_api_Stamp.mk 1 0) 0 (A8.mk 0 0 0 0 0 0 0 0) (S_api_State.mk (A8.mk 0 0 0 0 0 0 0 0) Sl.nil Sl.nil))))]) (i := 0) (off := 0) (cs' := (S_api_Event.cells (S_api_Event.mk (S_api_Stamp.mk 2 1) 0 (A8.mk 1 0 0 0 0 0 0 0) (S_api_State.mk (A8.mk 0 0 0 0 0 0 0 0) Sl.nil Sl.nil)))) ts35 rfl rfl rfl rfl bx rfl (by kernel_rfl) h (by kernel_rfl) (by kernel_rfl) ?_
 intro hp h bx
 refine qn ?_
 refine qs ?_
 refine qy rfl (y_lda (cs := (S_api_Event.cells (S_api_Event.mk (S_api_Stamp.mk 1 0) 0 (A8.mk 0 0 0 0 0 0 0 0) (S_api_State.mk (A8.mk 0 0 0 0 0 0 0 0) Sl.nil Sl.nil)))) ts35 rfl rfl (Bx.row bx 1 0 rfl (by kernel_rfl))) ?_
 refine qy rfl (y_lda (cs := (S_api_Event.cells (S_api_Event.mk (S_api_Stamp.mk 2 1) 0 (A8.mk 1 0 0 0 0 0 0 0) (S_api_State.mk (A8.mk 0 0 0 0 0 0 0 0) Sl.nil Sl.nil)))) ts35 rfl rfl (Bx.row bx 0 0 rfl (by kernel_rfl))) ?_
 refine wpL_bsf Try.underlying22 ts35 tz35 rfl rfl (pcons rfl (pcons rfl rfl)) (full_cons rfl rfl (full_cons rfl rfl full_nil)) rfl h rfl ?_
 intro b7 hp h
 obtain ⟨kx, h⟩ := h
 replace bx := Bx.keep bx kx rfl
 refine wpL_call (vs := [Sl.enc (Sl.mk (some b7) 2 2)]) tc9 (lcons rfl lnil) (model_Last.lift h) rfl ?_
 intro r9 hp h
 obtain ⟨kx, h⟩ := h
 replace bx := Bx.keep bx kx rfl
 refine qm ?_
 iterate 2 refine qy rfl (y_ext rfl rfl) ?_
 refine wpL_allocX (zs := (S_api_Event.cells (S_api_Event.mk (S_api_Stamp.mk 0 0) 0 (A8.mk 0 0 0 0 0 0 0 0) (S_api_State.mk (A8.mk 0 0 0 0 0 0 0 0) Sl.nil Sl.nil)))) tz35 rfl bx h rfl ?_
 intro b11 hp h bx
 refine wpL_staX (L' := [(b11, (S_api_Event.cells r9.1)), (b4, (S_api_Event.cells (S_api_Event.mk (S_api_Stamp.mk 2 1) 0 (A8.mk 1 0 0 0 0 0 0 0) (S_api_State.mk (A8.mk 0 0 0 0 0 0 0 0) Sl.nil Sl.nil)))), (b1, (S_api_Event.cells (S_api_Event.mk (S_api_Stamp.mk 1 0) 0 (A8.mk 0 0 0 0 0 0 0 0) (S_api_State.mk (A8.mk 0 0 0 0 0 0 0 0) Sl.nil Sl.nil))))]) (i := 0) (off := 0) (cs' := (S_api_Event.cells r9.1)) ts35 rfl rfl rfl rfl bx rfl (by kernel_rfl) h (by kernel_rfl) (by kernel_rfl) ?_
 intro hp h bx
 refine qa ?_
 refine qn ?_
 obtain ⟨K15, jK15, h⟩ := h
 refine wpE_seqJH K15 (fun (x14 : Bool) (ρ : Env) (hp : Hp) => ρ 0 = .bool x14 ∧ True) (fun ρ x14 hp f h => ?_) ?_
 ·obtain ⟨e0, _⟩ := f
  replace h := jK15 x14 hp h
  refine wpE_ret ?_
  exact body_r x14 rfl (rs_tmp e0 rs_nil) rfl h
 ·refine qr ?_
  refine wpL_call (vs := [Sl.enc Sl.nil]) tc7 (lcons rfl lnil) (model_Fold.lift h) rfl ?_
  intro r17 hp h
  obtain ⟨kx, h⟩ := h
  replace bx := Bx.keep bx kx rfl
  refine wpL_call (vs := []) tc11 lnil (facts_Empty.lift h) rfl ?_
  intro r19 hp h
  obtain ⟨kx, h⟩ := h
  replace bx := Bx.keep bx kx rfl
  refine wpL_call (vs := [S_api_State.enc r17, S_api_State.enc r19]) tc10 (lcons rfl (lcons rfl lnil)) (facts_Same.lift h) rfl ?_
  intro r21 hp h
  obtain ⟨kx, h⟩ := h
  replace bx := Bx.keep bx kx rfl
  refine qm ?_
  refine wpL_split h (fun g23 h => ?_) (fun g23 h => ?_)
  ·refine qg rfl g23 ?_
   refine qy rfl (y_lda (cs := (S_api_Event.cells (S_api_Event.mk (S_api_Stamp.mk 1 0) 0 (A8.mk 0 0 0 0 0 0 0 0) (S_api_State.mk (A8.mk 0 0 0 0 0 0 0 0) Sl.nil Sl.nil)))) ts35 rfl rfl (Bx.row bx 2 0 rfl (by kernel_rfl))) ?_
   refine qg rfl g23 ?_
   refine qy rfl (y_lda (cs := (S_api_Event.cells (S_api_Event.mk (S_api_Stamp.mk 2 1) 0 (A8.mk 1 0 0 0 0 0 0 0) (S_api_State.mk (A8.mk 0 0 0 0 0 0 0 0) Sl.nil Sl.nil)))) ts35 rfl rfl (Bx.row bx 1 0 rfl (by kernel_rfl))) ?_
   refine qg rfl g23 ?_
   refine wpL_call (vs := [S_api_Event.enc (S_api_Event.mk (S_api_Stamp.mk 1 0) 0 (A8.mk 0 0 0 0 0 0 0 0) (S_api_State.mk (A8.mk 0 0 0 0 0 0 0 0) Sl.nil Sl.nil)), S_api_Event.enc (S_api_Event.mk (S_api_Stamp.mk 2 1) 0 (A8.mk 1 0 0 0 0 0 0 0) (S_api_State.mk (A8.mk 0 0 0 0 0 0 0 0) Sl.nil Sl.nil))]) tc12 (lcons rfl (lcons rfl lnil)) (model_Before.lift h) rfl ?_
   intro r24 hp h
   obtain ⟨kx, h⟩ := h
   replace bx := Bx.keep bx kx rfl
   refine qy rfl (y_pickt (vbool rfl g23)) ?_
   refine qm ?_
   refine wpL_split h (fun g26 h => ?_) (fun g26 h => ?_)
   ·refine qg rfl g26 ?_
    refine qy rfl (y_lda (cs := (S_api_Event.cells (S_api_Event.mk (S_api_Stamp.mk 2 1) 0 (A8.mk 1 0 0 0 0 0 0 0) (S_api_State.mk (A8.mk 0 0 0 0 0 0 0 0) Sl.nil Sl.nil)))) ts35 rfl rfl (Bx.row bx 1 0 rfl (by kernel_rfl))) ?_
    refine qg rfl g26 ?_
    refine qy rfl (y_lda (cs := (S_api_Event.cells (S_api_Event.mk (S_api_Stamp.mk 1 0) 0 (A8.mk 0 0 0 0 0 0 0 0) (S_api_State.mk (A8.mk 0 0 0 0 0 0 0 0) Sl.nil Sl.nil)))) ts35 rfl rfl (Bx.row bx 2 0 rfl (by kernel_rfl))) ?_
    refine qg rfl g26 ?_
    refine wpL_call (vs := [S_api_Event.enc (S_api_Event.mk (S_api_Stamp.mk 2 1) 0 (A8.mk 1 0 0 0 0 0 0 0) (S_api_State.mk (A8.mk 0 0 0 0 0 0 0 0) Sl.nil Sl.nil)), S_api_Event.enc (S_api_Event.mk (S_api_Stamp.mk 1 0) 0 (A8.mk 0 0 0 0 0 0 0 0) (S_api_State.mk (A8.mk 0 0 0 0 0 0 0 0) Sl.nil Sl.nil))]) tc12 (lcons rfl (lcons rfl lnil)) (model_Before.lift h) rfl ?_
    intro r27 hp h
    obtain ⟨kx, h⟩ := h
    replace bx := Bx.keep (bx.sub (L' := [(b11, (S_api_Event.cells r9.1)), (b4, (S_api_Event.cells (S_api_Event.mk (S_api_Stamp.mk 2 1) 0 (A8.mk 1 0 0 0 0 0 0 0) (S_api_State.mk (A8.mk 0 0 0 0 0 0 0 0) Sl.nil Sl.nil))))]) (.cons_cons _ (.cons_cons _ (.cons _ .slnil)))) kx rfl
    refine qg rfl g26 ?_
    refine qy rfl (y_not rfl) ?_
    refine qy rfl (y_pickt (vbool rfl g26)) ?_
    refine qm ?_
    refine wpL_split h (fun g29 h => ?_) (fun g29 h => ?_)
    ·refine qg rfl g29 ?_
     refine qm ?_
     refine qy rfl (y_pickt (vbool rfl g29)) ?_
     refine qm ?_
     refine wpL_split h (fun g30 h => ?_) (fun g30 h => ?_)
     ·refine qg rfl g30 ?_
      refine qy rfl (y_fa fa35_0 rfl) ?_
      refine qg rfl g30 ?_
      refine qy rfl (y_lda (cs := (S_api_Stamp.cells r9.1.At)) ts27 rfl rfl (Bx.row bx 0 0 rfl (by kernel_rfl))) ?_
      refine qg rfl g30 ?_
      refine qy rfl (y_fa fa35_0 rfl) ?_
      refine qg rfl g30 ?_
      refine qy rfl (y_lda (cs := (S_api_Stamp.cells ((S_api_Event.mk (S_api_Stamp.mk 2 1) 0 (A8.mk 1 0 0 0 0 0 0 0) (S_api_State.mk (A8.mk 0 0 0 0 0 0 0 0) Sl.nil Sl.nil)).At))) ts27 rfl rfl (Bx.row bx 1 0 rfl (by kernel_rfl))) ?_
      refine qg rfl g30 ?_
      refine qy rfl (y_bin rfl rfl (eq27 _ _)) ?_
      refine qy rfl (y_pickt (vbool rfl g30)) ?_
      refine qa ?_
      refine qn ?_
      exact ⟨(S_api_Stamp.eqb r9.1.At ((S_api_Event.mk (S_api_Stamp.mk 2 1) 0 (A8.mk 1 0 0 0 0 0 0 0) (S_api_State.mk (A8.mk 0 0 0 0 0 0 0 0) Sl.nil Sl.nil)).At)), ⟨rfl, trivial⟩, h⟩
     ·refine qp rfl g30 ?_
      iterate 4 refine qp rfl g30 ?_
      refine qy rfl (y_pickf (vbool rfl g30)) ?_
      refine qa ?_
      refine qn ?_
      exact ⟨false, ⟨rfl, trivial⟩, h⟩
    ·refine qp rfl g29 ?_
     refine qy rfl (y_pickf (vbool rfl g29)) ?_
     refine qm ?_
     iterate 5 refine qP rfl rfl ?_
     refine qy rfl (y_pickf rfl) ?_
     refine qa ?_
     refine qn ?_
     exact ⟨false, ⟨rfl, trivial⟩, h⟩
   ·refine qp rfl g26 ?_
    iterate 3 refine qp rfl g26 ?_
    refine qy rfl (y_pickf (vbool rfl g26)) ?_
    refine qm ?_
    refine qP rfl rfl ?_
    refine qy rfl (y_pickf rfl) ?_
    refine qm ?_
    iterate 5 refine qP rfl rfl ?_
    refine qy rfl (y_pickf rfl) ?_
    refine qa ?_
    refine qn ?_
    exact ⟨false, ⟨rfl, trivial⟩, h⟩
  ·refine qp rfl g23 ?_
   iterate 2 refine qp rfl g23 ?_
   refine qy rfl (y_pickf (vbool rfl g23)) ?_
   refine qm ?_
   iterate 4 refine qP rfl rfl ?_
   refine qy rfl (y_pickf rfl) ?_
   refine qm ?_
   refine qP rfl rfl ?_
   refine qy rfl (y_pickf rfl) ?_
   refine qm ?_
   iterate 5 refine qP rfl rfl ?_
   refine qy rfl (y_pickf rfl) ?_
   refine qa ?_
   refine qn ?_
   exact ⟨false, ⟨rfl, trivial⟩, h⟩

set_option maxHeartbeats 4000000 in
theorem crannogref10_SameNode.lift {a0 : S_api_Inode} {a1 : S_api_Inode} {Q : Bool → Hp → Prop} {hp : Hp} (h : crannogref10_SameNode a0 a1 Q hp) : CallsH Try.prog 13 #[S_api_Inode.enc a0, S_api_Inode.enc a1] hp (Rt Value.bool Q) := by
 unfold crannogref10_SameNode at h
 refine calls_of 94 Try.func13 rfl rfl ?_
 refine qs ?_
 refine wpL_boxX (vs := (S_api_Inode.cells a0)) rfl rfl Bx.nil h rfl ?_
 intro b1 hp h bx
 refine wpL_boxX (vs := (S_api_Inode.cells a1)) rfl rfl bx h rfl ?_
 intro b3 hp h bx
 refine qa ?_
 refine qn ?_
 refine qe ?_
 obtain ⟨K6, jK6, h⟩ := h
 refine wpE_seqJH K6 (fun (x5 : Bool) (ρ : Env) (hp : Hp) => ρ 57 = .bool x5 ∧ ρ 2 = .pointer (some b1) ∧ ρ 3 = .pointer (some b3) ∧ Bx hp [(b3, (S_api_Inode.cells a1)), (b1, (S_api_Inode.cells a0))]) (fun ρ x5 hp f h => ?_) ?_
 ·obtain ⟨e57, e2, e3, bx⟩ := f
  replace h := jK6 x5 hp h
  refine qc e57 h (fun h => ?_) fun h => ?_
  ·refine qs ?_
   refine qa ?_
   refine qn ?_
   refine wpE_ret ?_
   exact body_r false rfl (rs_tmp rfl rs_nil) rfl h
  ·refine wpE_skip ?_
   refine qe ?_
   refine qs ?_
   refine qy rfl (y_fa fa55_5 e2) ?_
   refine qy rfl (y_ld (v := (Sl.enc a0.Pieces)) ts52 rfl (Bx.cell bx 1 11 rfl (by kernel_rfl))) ?_
   refine qy rfl (y_lensl Try.underlying52 (lcons rfl lnil)) ?_
   refine qm ?_
   refine qn ?_
   refine wpE_block ?_
   obtain ⟨I11, m0, h, hI11⟩ := h
   refine wpE_loop (fun m ρ hp => ∃ u8 : Int, (ρ 61 = .int .i64 u8 ∧ ρ 2 = .pointer (some b1) ∧ ρ 3 = .pointer (some b3) ∧ ρ 60 = .int .i64 (a0.Pieces.len : Int) ∧ Bx hp [(b3, (S_api_Inode.cells a1)), (b1, (S_api_Inode.cells a0))]) ∧ I11 m u8 hp) (m := m0) ⟨0, ⟨rfl, e2, e3, rfl, bx⟩, h⟩ ?_
   rintro m ρ hp ⟨u8, ⟨e61, e2, e3, e60, bx⟩, h⟩
   replace h := hI11 m u8 hp h
   refine qs ?_
   refine qy rfl (y_bin e61 e60 (bin_lss _ _ _)) ?_
   refine qn ?_
   refine qe ?_
   refine qc rfl h (fun h => ?_) fun h => ?_
   ·refine wpE_skip ?_
    refine qb ?_
    refine qs ?_
    refine qm ?_
    refine qa ?_
    refine qn ?_
    refine qe ?_
    refine wpE_draw mixed rfl ?_
    refine qU 0 rfl rfl (fun _ => y_fa fa55_5 e2) ?_
    refine qT 1 11 (fun h => Hp.cell? h (b1.add 11) = some (Sl.enc a0.Pieces)) rfl rfl (Bx.cell bx 1 11 rfl (by kernel_rfl)) (fun _ c => y_ld (v := (Sl.enc a0.Pieces)) ts52 rfl c) ?_
    refine qU 2 rfl rfl (fun _ => y_mv) ?_
    obtain ⟨p120, q13, q130, q131, h⟩ := h
    generalize q139 : p120.add (_ * _) = p12 at h
    refine qU 3 rfl rfl (fun _ => ycast_p (y_ix Try.underlying52 ts60 rfl e61 q13 q130 q131) q139) ?_
    obtain ⟨v14, c15, h⟩ := h
    refine qT 4 11 (fun h => Row h p12 (S_api_Piece.cells v14)) rfl rfl c15 (fun _ c => y_lda ts60 rfl rfl c) ?_
    refine qU 5 rfl rfl (fun _ => y_fa fa55_5 e3) ?_
    refine qT 6 11 (fun h => Hp.cell? h (b3.add 11) = some (Sl.enc a1.Pieces)) rfl rfl (Bx.cell bx 0 11 rfl (by kernel_rfl)) (fun _ c => y_ld (v := (Sl.enc a1.Pieces)) ts52 rfl c) ?_
    refine qU 7 rfl rfl (fun _ => y_mv) ?_
    obtain ⟨p160, q17, q170, q171, h⟩ := h
    generalize q179 : p160.add (_ * _) = p16 at h
    refine qU 8 rfl rfl (fun _ => ycast_p (y_ix Try.underlying52 ts60 rfl e61 q17 q170 q171) q179) ?_
    obtain ⟨v18, c19, h⟩ := h
    refine qT 9 11 (fun h => Row h p16 (S_api_Piece.cells v18)) rfl rfl c19 (fun _ c => y_lda ts60 rfl rfl c) ?_
    refine qU 10 rfl rfl (fun _ => y_bin rfl rfl (eqn60 _ _)) ?_
    refine qt (by kernel_rfl) ?_
    refine qc rfl h (fun h => ?_) fun h => ?_
    ·refine qs ?_
     refine qa ?_
     refine qn ?_
     refine wpE_ret ?_
     exact body_r false rfl (rs_tmp rfl rs_nil) rfl h
    ·refine wpE_skip ?_
     refine qr ?_
     refine qy rfl (y_bin e61 rfl (bin_add _ _ _)) ?_
     refine qm ?_
     refine qn ?_
     obtain ⟨m, hm, h⟩ := h
     exact ⟨m, hm, (IntKind.wrap .i64 (u8 + (1 : Int))), ⟨rfl, e2, e3, e60, bx⟩, h⟩
   ·refine wpE_exit ?_
    refine qe ?_
    refine qs ?_
    refine qy rfl (y_fa fa55_6 e2) ?_
    refine qy rfl (y_ld (v := (Sl.enc a0.Xattrs)) ts53 rfl (Bx.cell bx 1 12 rfl (by kernel_rfl))) ?_
    refine qy rfl (y_lensl Try.underlying53 (lcons rfl lnil)) ?_
    refine qm ?_
    refine qn ?_
    refine wpE_block ?_
    obtain ⟨I23, m0, h, hI23⟩ := h
    refine wpE_loop (fun m ρ hp => ∃ u20 : Int, (ρ 79 = .int .i64 u20 ∧ ρ 2 = .pointer (some b1) ∧ ρ 3 = .pointer (some b3) ∧ ρ 78 = .int .i64 (a0.Xattrs.len : Int) ∧ Bx hp [(b3, (S_api_Inode.cells a1)), (b1, (S_api_Inode.cells a0))]) ∧ I23 m u20 hp) (m := m0) ⟨0, ⟨rfl, e2, e3, rfl, bx⟩, h⟩ ?_
    rintro m ρ hp ⟨u20, ⟨e79, e2, e3, e78, bx⟩, h⟩
    replace h := hI23 m u20 hp h
    refine qs ?_
    refine qy rfl (y_bin e79 e78 (bin_lss _ _ _)) ?_
    refine qn ?_
    refine qe ?_
    refine qc rfl h (fun h => ?_) fun h => ?_
    ·refine wpE_skip ?_
     refine qb ?_
     refine qs ?_
     refine qm ?_
     refine qa ?_
     refine qn ?_
     refine qe ?_
     refine wpE_draw mixed rfl ?_
     refine qU 0 rfl rfl (fun _ => y_fa fa55_6 e2) ?_
     refine qT 1 11 (fun h => Hp.cell? h (b1.add 12) = some (Sl.enc a0.Xattrs)) rfl rfl (Bx.cell bx 1 12 rfl (by kernel_rfl)) (fun _ c => y_ld (v := (Sl.enc a0.Xattrs)) ts53 rfl c) ?_
     refine qU 2 rfl rfl (fun _ => y_mv) ?_
     obtain ⟨p240, q25, q250, q251, h⟩ := h
     generalize q259 : p240.add (_ * _) = p24 at h
     refine qU 3 rfl rfl (fun _ => ycast_p (y_ix Try.underlying53 ts62 rfl e79 q25 q250 q251) q259) ?_
     obtain ⟨v26, c27, h⟩ := h
     refine qT 4 11 (fun h => Row h p24 (S_api_Xattr.cells v26)) rfl rfl c27 (fun _ c => y_lda ts62 rfl rfl c) ?_
     refine qU 5 rfl rfl (fun _ => y_fa fa55_6 e3) ?_
     refine qT 6 11 (fun h => Hp.cell? h (b3.add 12) = some (Sl.enc a1.Xattrs)) rfl rfl (Bx.cell bx 0 12 rfl (by kernel_rfl)) (fun _ c => y_ld (v := (Sl.enc a1.Xattrs)) ts53 rfl c) ?_
     refine qU 7 rfl rfl (fun _ => y_mv) ?_
     obtain ⟨p280, q29, q290, q291, h⟩ := h
     generalize q299 : p280.add (_ * _) = p28 at h
     refine qU 8 rfl rfl (fun _ => ycast_p (y_ix Try.underlying53 ts62 rfl e79 q29 q290 q291) q299) ?_
     obtain ⟨v30, c31, h⟩ := h
     refine qT 9 11 (fun h => Row h p28 (S_api_Xattr.cells v30)) rfl rfl c31 (fun _ c => y_lda ts62 rfl rfl c) ?_
     refine qU 10 rfl rfl (fun _ => y_bin rfl rfl (eqn62 _ _)) ?_
     refine qt (by kernel_rfl) ?_
     refine qc rfl h (fun h => ?_) fun h => ?_
     ·refine qs ?_
      refine qa ?_
      refine qn ?_
      refine wpE_ret ?_
      exact body_r false rfl (rs_tmp rfl rs_nil) rfl h
     ·refine wpE_skip ?_
      refine qr ?_
      refine qy rfl (y_bin e79 rfl (bin_add _ _ _)) ?_
      refine qm ?_
      refine qn ?_
      obtain ⟨m, hm, h⟩ := h
      exact ⟨m, hm, (IntKind.wrap .i64 (u20 + (1 : Int))), ⟨rfl, e2, e3, e78, bx⟩, h⟩
    ·refine wpE_exit ?_
     refine qs ?_
     refine qa ?_
     refine qn ?_
     refine wpE_ret ?_
     exact body_r true rfl (rs_tmp rfl rs_nil) rfl h
 ·refine qr ?_
  refine qy rfl (y_fa fa55_0 rfl) ?_
  refine qy rfl (y_lda (cs := (S_api_Stamp.cells a0.Id)) ts27 rfl rfl (Bx.row bx 1 0 rfl (by kernel_rfl))) ?_
  refine qy rfl (y_fa fa55_0 rfl) ?_
  refine qy rfl (y_lda (cs := (S_api_Stamp.cells a1.Id)) ts27 rfl rfl (Bx.row bx 0 0 rfl (by kernel_rfl))) ?_
  refine qy rfl (y_bin rfl rfl (eqn27 _ _)) ?_
  refine qm ?_
  refine wpL_split h (fun g32 h => ?_) (fun g32 h => ?_)
  ·refine qp rfl g32 ?_
   iterate 4 refine qp rfl g32 ?_
   refine qy rfl (y_pickt (vbool rfl g32)) ?_
   refine qm ?_
   iterate 5 refine qP rfl rfl ?_
   refine qy rfl (y_pickt rfl) ?_
   refine qm ?_
   iterate 5 refine qP rfl rfl ?_
   refine qy rfl (y_pickt rfl) ?_
   refine qm ?_
   iterate 5 refine qP rfl rfl ?_
   refine qy rfl (y_pickt rfl) ?_
   refine qm ?_
   iterate 7 refine qP rfl rfl ?_
   refine qy rfl (y_pickt rfl) ?_
   refine qm ?_
   iterate 7 refine qP rfl rfl ?_
   refine qy rfl (y_pickt rfl) ?_
   refine qn ?_
   exact ⟨true, ⟨rfl, rfl, rfl, bx⟩, h⟩
  ·refine qg rfl g32 ?_
   refine qy rfl (y_fa fa55_1 rfl) ?_
   refine qg rfl g32 ?_
   refine qy rfl (y_ld (v := ((Value.int .i64) a0.Kind)) ts3 rfl (Bx.cell bx 1 2 rfl (by kernel_rfl))) ?_
   refine qg rfl g32 ?_
   refine qy rfl (y_fa fa55_1 rfl) ?_
   refine qg rfl g32 ?_
   refine qy rfl (y_ld (v := ((Value.int .i64) a1.Kind)) ts3 rfl (Bx.cell bx 0 2 rfl (by kernel_rfl))) ?_
   refine qg rfl g32 ?_
   refine qy rfl (y_bin rfl rfl (bin_neq _ _ _)) ?_
   refine qy rfl (y_pickf (vbool rfl g32)) ?_
   refine qm ?_
   refine wpL_split h (fun g33 h => ?_) (fun g33 h => ?_)
   ·refine qp rfl g33 ?_
    iterate 4 refine qp rfl g33 ?_
    refine qy rfl (y_pickt (vbool rfl g33)) ?_
    refine qm ?_
    iterate 5 refine qP rfl rfl ?_
    refine qy rfl (y_pickt rfl) ?_
    refine qm ?_
    iterate 5 refine qP rfl rfl ?_
    refine qy rfl (y_pickt rfl) ?_
    refine qm ?_
    iterate 7 refine qP rfl rfl ?_
    refine qy rfl (y_pickt rfl) ?_
    refine qm ?_
    iterate 7 refine qP rfl rfl ?_
    refine qy rfl (y_pickt rfl) ?_
    refine qn ?_
    exact ⟨true, ⟨rfl, rfl, rfl, bx⟩, h⟩
   ·refine qg rfl g33 ?_
    refine qy rfl (y_fa fa55_2 rfl) ?_
    refine qg rfl g33 ?_
    refine qy rfl (y_ld (v := (vS a0.Text)) ts9 rfl (Bx.cell bx 1 3 rfl (by kernel_rfl))) ?_
    refine qg rfl g33 ?_
    refine qy rfl (y_fa fa55_2 rfl) ?_
    refine qg rfl g33 ?_
    refine qy rfl (y_ld (v := (vS a1.Text)) ts9 rfl (Bx.cell bx 0 3 rfl (by kernel_rfl))) ?_
    refine qg rfl g33 ?_
    refine qy rfl (y_bin rfl rfl (bin_sneq _ _)) ?_
    refine qy rfl (y_pickf (vbool rfl g33)) ?_
    refine qm ?_
    refine wpL_split h (fun g34 h => ?_) (fun g34 h => ?_)
    ·refine qp rfl g34 ?_
     iterate 4 refine qp rfl g34 ?_
     refine qy rfl (y_pickt (vbool rfl g34)) ?_
     refine qm ?_
     iterate 5 refine qP rfl rfl ?_
     refine qy rfl (y_pickt rfl) ?_
     refine qm ?_
     iterate 7 refine qP rfl rfl ?_
     refine qy rfl (y_pickt rfl) ?_
     refine qm ?_
     iterate 7 refine qP rfl rfl ?_
     refine qy rfl (y_pickt rfl) ?_
     refine qn ?_
     exact ⟨true, ⟨rfl, rfl, rfl, bx⟩, h⟩
    ·refine qg rfl g34 ?_
     refine qy rfl (y_fa fa55_3 rfl) ?_
     refine qg rfl g34 ?_
     refine qy rfl (y_lda (cs := (S_api_Attr.cells a0.Attr)) ts49 rfl rfl (Bx.row bx 1 4 rfl (by kernel_rfl))) ?_
     refine qg rfl g34 ?_
     refine qy rfl (y_fa fa55_3 rfl) ?_
     refine qg rfl g34 ?_
     refine qy rfl (y_lda (cs := (S_api_Attr.cells a1.Attr)) ts49 rfl rfl (Bx.row bx 0 4 rfl (by kernel_rfl))) ?_
     refine qg rfl g34 ?_
     refine qy rfl (y_bin rfl rfl (eqn49 _ _)) ?_
     refine qy rfl (y_pickf (vbool rfl g34)) ?_
     refine qm ?_
     refine wpL_split h (fun g35 h => ?_) (fun g35 h => ?_)
     ·refine qp rfl g35 ?_
      iterate 4 refine qp rfl g35 ?_
      refine qy rfl (y_pickt (vbool rfl g35)) ?_
      refine qm ?_
      iterate 7 refine qP rfl rfl ?_
      refine qy rfl (y_pickt rfl) ?_
      refine qm ?_
      iterate 7 refine qP rfl rfl ?_
      refine qy rfl (y_pickt rfl) ?_
      refine qn ?_
      exact ⟨true, ⟨rfl, rfl, rfl, bx⟩, h⟩
     ·refine qg rfl g35 ?_
      refine qy rfl (y_fa fa55_4 rfl) ?_
      refine qg rfl g35 ?_
      refine qy rfl (y_lda (cs := (S_api_Size.cells a0.Size)) ts51 rfl rfl (Bx.row bx 1 8 rfl (by kernel_rfl))) ?_
      refine qg rfl g35 ?_
      refine qy rfl (y_fa fa55_4 rfl) ?_
      refine qg rfl g35 ?_
      refine qy rfl (y_lda (cs := (S_api_Size.cells a1.Size)) ts51 rfl rfl (Bx.row bx 0 8 rfl (by kernel_rfl))) ?_
      refine qg rfl g35 ?_
      refine qy rfl (y_bin rfl rfl (eqn51 _ _)) ?_
      refine qy rfl (y_pickf (vbool rfl g35)) ?_
      refine qm ?_
      refine wpL_split h (fun g36 h => ?_) (fun g36 h => ?_)
      ·refine qp rfl g36 ?_
       iterate 6 refine qp rfl g36 ?_
       refine qy rfl (y_pickt (vbool rfl g36)) ?_
       refine qm ?_
       iterate 7 refine qP rfl rfl ?_
       refine qy rfl (y_pickt rfl) ?_
       refine qn ?_
       exact ⟨true, ⟨rfl, rfl, rfl, bx⟩, h⟩
      ·refine qg rfl g36 ?_
       refine qy rfl (y_fa fa55_5 rfl) ?_
       refine qg rfl g36 ?_
       refine qy rfl (y_ld (v := (Sl.enc a0.Pieces)) ts52 rfl (Bx.cell bx 1 11 rfl (by kernel_rfl))) ?_
       refine qg rfl g36 ?_
       refine qy rfl (y_lensl Try.underlying52 (lcons rfl lnil)) ?_
       refine qg rfl g36 ?_
       refine qy rfl (y_fa fa55_5 rfl) ?_
       refine qg rfl g36 ?_
       refine qy rfl (y_ld (v := (Sl.enc a1.Pieces)) ts52 rfl (Bx.cell bx 0 11 rfl (by kernel_rfl))) ?_
       refine qg rfl g36 ?_
       refine qy rfl (y_lensl Try.underlying52 (lcons rfl lnil)) ?_
       refine qg rfl g36 ?_
       refine qy rfl (y_bin rfl rfl (bin_neq _ _ _)) ?_
       refine qy rfl (y_pickf (vbool rfl g36)) ?_
       refine qm ?_
       refine wpL_split h (fun g37 h => ?_) (fun g37 h => ?_)
       ·refine qp rfl g37 ?_
        iterate 6 refine qp rfl g37 ?_
        refine qy rfl (y_pickt (vbool rfl g37)) ?_
        refine qn ?_
        exact ⟨true, ⟨rfl, rfl, rfl, bx⟩, h⟩
       ·refine qg rfl g37 ?_
        refine qy rfl (y_fa fa55_6 rfl) ?_
        refine qg rfl g37 ?_
        refine qy rfl (y_ld (v := (Sl.enc a0.Xattrs)) ts53 rfl (Bx.cell bx 1 12 rfl (by kernel_rfl))) ?_
        refine qg rfl g37 ?_
        refine qy rfl (y_lensl Try.underlying53 (lcons rfl lnil)) ?_
        refine qg rfl g37 ?_
        refine qy rfl (y_fa fa55_6 rfl) ?_
        refine qg rfl g37 ?_
        refine qy rfl (y_ld (v := (Sl.enc a1.Xattrs)) ts53 rfl (Bx.cell bx 0 12 rfl (by kernel_rfl))) ?_
        refine qg rfl g37 ?_
        refine qy rfl (y_lensl Try.underlying53 (lcons rfl lnil)) ?_
        refine qg rfl g37 ?_
        refine qy rfl (y_bin rfl rfl (bin_neq _ _ _)) ?_
        refine qy rfl (y_pickf (vbool rfl g37)) ?_
        refine qn ?_
        exact ⟨((a0.Xattrs.len : Int) != (a1.Xattrs.len : Int)), ⟨rfl, rfl, rfl, bx⟩, h⟩

set_option maxHeartbeats 4000000 in
theorem crannogref10_Same.lift {a0 : S_api_State} {a1 : S_api_State} {Q : Bool → Hp → Prop} {hp : Hp} (h : crannogref10_Same a0 a1 Q hp) : CallsH Try.prog 6 #[S_api_State.enc a0, S_api_State.enc a1] hp (Rt Value.bool Q) := by
 unfold crannogref10_Same at h
 refine calls_of 67 Try.func6 rfl rfl ?_
 refine qs ?_
 refine wpL_boxX (vs := (S_api_State.cells a0)) rfl rfl Bx.nil h rfl ?_
 intro b1 hp h bx
 refine wpL_boxX (vs := (S_api_State.cells a1)) rfl rfl bx h rfl ?_
 intro b3 hp h bx
 refine qa ?_
 refine qn ?_
 refine qe ?_
 obtain ⟨K6, jK6, h⟩ := h
 refine wpE_seqJH K6 (fun (x5 : Bool) (ρ : Env) (hp : Hp) => ρ 29 = .bool x5 ∧ ρ 2 = .pointer (some b1) ∧ ρ 3 = .pointer (some b3) ∧ Bx hp [(b3, (S_api_State.cells a1)), (b1, (S_api_State.cells a0))]) (fun ρ x5 hp f h => ?_) ?_
 ·obtain ⟨e29, e2, e3, bx⟩ := f
  replace h := jK6 x5 hp h
  refine qc e29 h (fun h => ?_) fun h => ?_
  ·refine qs ?_
   refine qa ?_
   refine qn ?_
   refine wpE_ret ?_
   exact body_r false rfl (rs_tmp rfl rs_nil) rfl h
  ·refine wpE_skip ?_
   refine qe ?_
   refine qs ?_
   refine qy rfl (y_fa fa33_1 e2) ?_
   refine qy rfl (y_ld (v := (Sl.enc a0.Nodes)) ts30 rfl (Bx.cell bx 1 8 rfl (by kernel_rfl))) ?_
   refine qy rfl (y_lensl Try.underlying30 (lcons rfl lnil)) ?_
   refine qm ?_
   refine qn ?_
   refine wpE_block ?_
   obtain ⟨I11, m0, h, hI11⟩ := h
   refine wpE_loop (fun m ρ hp => ∃ u8 : Int, (ρ 33 = .int .i64 u8 ∧ ρ 2 = .pointer (some b1) ∧ ρ 3 = .pointer (some b3) ∧ ρ 32 = .int .i64 (a0.Nodes.len : Int) ∧ Bx hp [(b3, (S_api_State.cells a1)), (b1, (S_api_State.cells a0))]) ∧ I11 m u8 hp) (m := m0) ⟨0, ⟨rfl, e2, e3, rfl, bx⟩, h⟩ ?_
   rintro m ρ hp ⟨u8, ⟨e33, e2, e3, e32, bx⟩, h⟩
   replace h := hI11 m u8 hp h
   refine qs ?_
   refine qy rfl (y_bin e33 e32 (bin_lss _ _ _)) ?_
   refine qn ?_
   refine qe ?_
   refine qc rfl h (fun h => ?_) fun h => ?_
   ·refine wpE_skip ?_
    refine qb ?_
    refine qs ?_
    refine qm ?_
    refine qa ?_
    refine qn ?_
    refine qe ?_
    refine wpE_draw mixed rfl ?_
    refine qU 0 rfl rfl (fun _ => y_fa fa33_1 e2) ?_
    refine qT 1 12 (fun h => Hp.cell? h (b1.add 8) = some (Sl.enc a0.Nodes)) rfl rfl (Bx.cell bx 1 8 rfl (by kernel_rfl)) (fun _ c => y_ld (v := (Sl.enc a0.Nodes)) ts30 rfl c) ?_
    refine qU 2 rfl rfl (fun _ => y_mv) ?_
    obtain ⟨p120, q13, q130, q131, h⟩ := h
    generalize q139 : p120.add (_ * _) = p12 at h
    refine qU 3 rfl rfl (fun _ => ycast_p (y_ix Try.underlying30 ts55 rfl e33 q13 q130 q131) q139) ?_
    obtain ⟨v14, c15, h⟩ := h
    refine qT 4 10 (fun h => Row h p12 (S_api_Inode.cells v14)) rfl rfl c15 (fun _ c => y_lda ts55 rfl rfl c) ?_
    refine qU 5 rfl rfl (fun _ => y_fa fa33_1 e3) ?_
    refine qT 6 12 (fun h => Hp.cell? h (b3.add 8) = some (Sl.enc a1.Nodes)) rfl rfl (Bx.cell bx 0 8 rfl (by kernel_rfl)) (fun _ c => y_ld (v := (Sl.enc a1.Nodes)) ts30 rfl c) ?_
    refine qU 7 rfl rfl (fun _ => y_mv) ?_
    obtain ⟨p160, q17, q170, q171, h⟩ := h
    generalize q179 : p160.add (_ * _) = p16 at h
    refine qU 8 rfl rfl (fun _ => ycast_p (y_ix Try.underlying30 ts55 rfl e33 q17 q170 q171) q179) ?_
    obtain ⟨v18, c19, h⟩ := h
    refine qT 9 10 (fun h => Row h p16 (S_api_Inode.cells v18)) rfl rfl c19 (fun _ c => y_lda ts55 rfl rfl c) ?_
    refine wpA_loud (rs := [10]) (by kernel_rfl) rfl ?_
    refine mcons (step_of rfl ?_) mnil
    refine wpL_call (vs := [S_api_Inode.enc v14, S_api_Inode.enc v18]) tc13 (lcons rfl (lcons rfl lnil)) (crannogref10_SameNode.lift h) rfl ?_
    intro r20 hp h
    obtain ⟨kx, h⟩ := h
    replace bx := Bx.keep bx kx rfl
    refine qn ?_
    refine ⟨hs_dead rfl (hs_live (Bx.cell bx 0 8 rfl (by kernel_rfl)) (hs_dead rfl (hs_live (Bx.cell bx 1 8 rfl (by kernel_rfl)) hs_nil))), ?_⟩
    refine qU 11 rfl rfl (fun _ => y_not rfl) ?_
    refine qt (by kernel_rfl) ?_
    refine qc rfl h (fun h => ?_) fun h => ?_
    ·refine qs ?_
     refine qa ?_
     refine qn ?_
     refine wpE_ret ?_
     exact body_r false rfl (rs_tmp rfl rs_nil) rfl h
    ·refine wpE_skip ?_
     refine qr ?_
     refine qy rfl (y_bin e33 rfl (bin_add _ _ _)) ?_
     refine qm ?_
     refine qn ?_
     obtain ⟨m, hm, h⟩ := h
     exact ⟨m, hm, (IntKind.wrap .i64 (u8 + (1 : Int))), ⟨rfl, e2, e3, e32, bx⟩, h⟩
   ·refine wpE_exit ?_
    refine qe ?_
    refine qs ?_
    refine qy rfl (y_fa fa33_2 e2) ?_
    refine qy rfl (y_ld (v := (Sl.enc a0.Links)) ts31 rfl (Bx.cell bx 1 9 rfl (by kernel_rfl))) ?_
    refine qy rfl (y_lensl Try.underlying31 (lcons rfl lnil)) ?_
    refine qm ?_
    refine qn ?_
    refine wpE_block ?_
    obtain ⟨I25, m0, h, hI25⟩ := h
    refine wpE_loop (fun m ρ hp => ∃ u22 : Int, (ρ 52 = .int .i64 u22 ∧ ρ 2 = .pointer (some b1) ∧ ρ 3 = .pointer (some b3) ∧ ρ 51 = .int .i64 (a0.Links.len : Int) ∧ Bx hp [(b3, (S_api_State.cells a1)), (b1, (S_api_State.cells a0))]) ∧ I25 m u22 hp) (m := m0) ⟨0, ⟨rfl, e2, e3, rfl, bx⟩, h⟩ ?_
    rintro m ρ hp ⟨u22, ⟨e52, e2, e3, e51, bx⟩, h⟩
    replace h := hI25 m u22 hp h
    refine qs ?_
    refine qy rfl (y_bin e52 e51 (bin_lss _ _ _)) ?_
    refine qn ?_
    refine qe ?_
    refine qc rfl h (fun h => ?_) fun h => ?_
    ·refine wpE_skip ?_
     refine qb ?_
     refine qs ?_
     refine qm ?_
     refine qa ?_
     refine qn ?_
     refine qe ?_
     refine wpE_draw mixed rfl ?_
     refine qU 0 rfl rfl (fun _ => y_fa fa33_2 e2) ?_
     refine qT 1 11 (fun h => Hp.cell? h (b1.add 9) = some (Sl.enc a0.Links)) rfl rfl (Bx.cell bx 1 9 rfl (by kernel_rfl)) (fun _ c => y_ld (v := (Sl.enc a0.Links)) ts31 rfl c) ?_
     refine qU 2 rfl rfl (fun _ => y_mv) ?_
     obtain ⟨p260, q27, q270, q271, h⟩ := h
     generalize q279 : p260.add (_ * _) = p26 at h
     refine qU 3 rfl rfl (fun _ => ycast_p (y_ix Try.underlying31 ts57 rfl e52 q27 q270 q271) q279) ?_
     obtain ⟨v28, c29, h⟩ := h
     refine qT 4 11 (fun h => Row h p26 (S_api_Link.cells v28)) rfl rfl c29 (fun _ c => y_lda ts57 rfl rfl c) ?_
     refine qU 5 rfl rfl (fun _ => y_fa fa33_2 e3) ?_
     refine qT 6 11 (fun h => Hp.cell? h (b3.add 9) = some (Sl.enc a1.Links)) rfl rfl (Bx.cell bx 0 9 rfl (by kernel_rfl)) (fun _ c => y_ld (v := (Sl.enc a1.Links)) ts31 rfl c) ?_
     refine qU 7 rfl rfl (fun _ => y_mv) ?_
     obtain ⟨p300, q31, q310, q311, h⟩ := h
     generalize q319 : p300.add (_ * _) = p30 at h
     refine qU 8 rfl rfl (fun _ => ycast_p (y_ix Try.underlying31 ts57 rfl e52 q31 q310 q311) q319) ?_
     obtain ⟨v32, c33, h⟩ := h
     refine qT 9 11 (fun h => Row h p30 (S_api_Link.cells v32)) rfl rfl c33 (fun _ c => y_lda ts57 rfl rfl c) ?_
     refine qU 10 rfl rfl (fun _ => y_bin rfl rfl (eqn57 _ _)) ?_
     refine qt (by kernel_rfl) ?_
     refine qc rfl h (fun h => ?_) fun h => ?_
     ·refine qs ?_
      refine qa ?_
      refine qn ?_
      refine wpE_ret ?_
      exact body_r false rfl (rs_tmp rfl rs_nil) rfl h
     ·refine wpE_skip ?_
      refine qr ?_
      refine qy rfl (y_bin e52 rfl (bin_add _ _ _)) ?_
      refine qm ?_
      refine qn ?_
      obtain ⟨m, hm, h⟩ := h
      exact ⟨m, hm, (IntKind.wrap .i64 (u22 + (1 : Int))), ⟨rfl, e2, e3, e51, bx⟩, h⟩
    ·refine wpE_exit ?_
     refine qs ?_
     refine qa ?_
     refine qn ?_
     refine wpE_ret ?_
     exact body_r true rfl (rs_tmp rfl rs_nil) rfl h
 ·refine qr ?_
  refine qy rfl (y_fa fa33_0 rfl) ?_
  refine qy rfl (y_lda (cs := ((A8.cells .i64) a0.Seen)) ts29 rfl rfl (Bx.row bx 1 0 rfl (by kernel_rfl))) ?_
  refine qy rfl (y_fa fa33_0 rfl) ?_
  refine qy rfl (y_lda (cs := ((A8.cells .i64) a1.Seen)) ts29 rfl rfl (Bx.row bx 0 0 rfl (by kernel_rfl))) ?_
  refine qy rfl (y_bin rfl rfl (eqn29 _ _)) ?_
  refine qm ?_
  refine wpL_split h (fun g34 h => ?_) (fun g34 h => ?_)
  ·refine qp rfl g34 ?_
   iterate 6 refine qp rfl g34 ?_
   refine qy rfl (y_pickt (vbool rfl g34)) ?_
   refine qm ?_
   iterate 7 refine qP rfl rfl ?_
   refine qy rfl (y_pickt rfl) ?_
   refine qn ?_
   exact ⟨true, ⟨rfl, rfl, rfl, bx⟩, h⟩
  ·refine qg rfl g34 ?_
   refine qy rfl (y_fa fa33_1 rfl) ?_
   refine qg rfl g34 ?_
   refine qy rfl (y_ld (v := (Sl.enc a0.Nodes)) ts30 rfl (Bx.cell bx 1 8 rfl (by kernel_rfl))) ?_
   refine qg rfl g34 ?_
   refine qy rfl (y_lensl Try.underlying30 (lcons rfl lnil)) ?_
   refine qg rfl g34 ?_
   refine qy rfl (y_fa fa33_1 rfl) ?_
   refine qg rfl g34 ?_
   refine qy rfl (y_ld (v := (Sl.enc a1.Nodes)) ts30 rfl (Bx.cell bx 0 8 rfl (by kernel_rfl))) ?_
   refine qg rfl g34 ?_
   refine qy rfl (y_lensl Try.underlying30 (lcons rfl lnil)) ?_
   refine qg rfl g34 ?_
   refine qy rfl (y_bin rfl rfl (bin_neq _ _ _)) ?_
   refine qy rfl (y_pickf (vbool rfl g34)) ?_
   refine qm ?_
   refine wpL_split h (fun g35 h => ?_) (fun g35 h => ?_)
   ·refine qp rfl g35 ?_
    iterate 6 refine qp rfl g35 ?_
    refine qy rfl (y_pickt (vbool rfl g35)) ?_
    refine qn ?_
    exact ⟨true, ⟨rfl, rfl, rfl, bx⟩, h⟩
   ·refine qg rfl g35 ?_
    refine qy rfl (y_fa fa33_2 rfl) ?_
    refine qg rfl g35 ?_
    refine qy rfl (y_ld (v := (Sl.enc a0.Links)) ts31 rfl (Bx.cell bx 1 9 rfl (by kernel_rfl))) ?_
    refine qg rfl g35 ?_
    refine qy rfl (y_lensl Try.underlying31 (lcons rfl lnil)) ?_
    refine qg rfl g35 ?_
    refine qy rfl (y_fa fa33_2 rfl) ?_
    refine qg rfl g35 ?_
    refine qy rfl (y_ld (v := (Sl.enc a1.Links)) ts31 rfl (Bx.cell bx 0 9 rfl (by kernel_rfl))) ?_
    refine qg rfl g35 ?_
    refine qy rfl (y_lensl Try.underlying31 (lcons rfl lnil)) ?_
    refine qg rfl g35 ?_
    refine qy rfl (y_bin rfl rfl (bin_neq _ _ _)) ?_
    refine qy rfl (y_pickf (vbool rfl g35)) ?_
    refine qn ?_
    exact ⟨((a0.Links.len : Int) != (a1.Links.len : Int)), ⟨rfl, rfl, rfl, bx⟩, h⟩

set_option maxHeartbeats 4000000 in
theorem crannoglaw22_ModelOrder.lift {a0 : Sl} {a1 : Sl} {Q : Bool → Hp → Prop} {hp : Hp} (h : crannoglaw22_ModelOrder a0 a1 Q hp) : CallsH Try.prog 3 #[Sl.enc a0, Sl.enc a1] hp (Rt Value.bool Q) := by
 unfold crannoglaw22_ModelOrder at h
 refine calls_of 69 Try.func3 rfl rfl ?_
 refine qs ?_
 refine qa ?_
 refine qn ?_
 refine qe ?_
 obtain ⟨K2, jK2, h⟩ := h
 refine wpE_seqJH K2 (fun (x1 : Bool) (ρ : Env) (hp : Hp) => ρ 17 = .bool x1 ∧ ρ 0 = Sl.enc a0 ∧ ρ 1 = Sl.enc a1 ∧ True) (fun ρ x1 hp f h => ?_) ?_
 ·obtain ⟨e17, e0, e1, _⟩ := f
  replace h := jK2 x1 hp h
  refine qc e17 h (fun h => ?_) fun h => ?_
  ·refine qs ?_
   refine wpL_call (vs := []) tc5 lnil (crannoglaw22_awake.lift h) rfl ?_
   intro r4 hp h
   refine qa ?_
   refine qn ?_
   refine wpE_ret ?_
   exact body_r r4 rfl (rs_tmp rfl rs_nil) rfl h
  ·refine wpE_skip ?_
   refine qs ?_
   refine qa ?_
   refine qn ?_
   refine qe ?_
   refine qs ?_
   refine qm ?_
   refine qy rfl (y_lensl Try.underlying23 (lcons e1 lnil)) ?_
   refine qm ?_
   refine qn ?_
   refine wpE_block ?_
   obtain ⟨I9, m0, h, hI9⟩ := h
   refine wpE_loop (fun m ρ hp => ∃ u6 : Sl × Int, (ρ 5 = Sl.enc u6.1 ∧ ρ 21 = .int .i64 u6.2 ∧ ρ 0 = Sl.enc a0 ∧ ρ 19 = Sl.enc a1 ∧ ρ 20 = .int .i64 (a1.len : Int) ∧ True) ∧ I9 m u6 hp) (m := m0) ⟨(Sl.nil, 0), ⟨rfl, rfl, e0, e1, rfl, trivial⟩, h⟩ ?_
   rintro m ρ hp ⟨u6, ⟨e5, e21, e0, e19, e20, _⟩, h⟩
   replace h := hI9 m u6 hp h
   refine qs ?_
   refine qy rfl (y_bin e21 e20 (bin_lss _ _ _)) ?_
   refine qn ?_
   refine qe ?_
   refine qc rfl h (fun h => ?_) fun h => ?_
   ·refine wpE_skip ?_
    obtain ⟨K11, jK11, h⟩ := h
    refine wpE_seqJH K11 (fun (x10 : Sl) (ρ : Env) (hp : Hp) => ρ 5 = Sl.enc x10 ∧ ρ 0 = Sl.enc a0 ∧ ρ 19 = Sl.enc a1 ∧ ρ 20 = .int .i64 (a1.len : Int) ∧ ρ 21 = .int .i64 u6.2 ∧ True) (fun ρ x10 hp f h => ?_) ?_
    ·obtain ⟨e5, e0, e19, e20, e21, _⟩ := f
     replace h := jK11 x10 hp h
     refine qr ?_
     refine qy rfl (y_bin e21 rfl (bin_add _ _ _)) ?_
     refine qm ?_
     refine qn ?_
     obtain ⟨m, hm, h⟩ := h
     exact ⟨m, hm, (x10, IntKind.wrap .i64 (u6.2 + (1 : Int))), ⟨e5, rfl, e0, e19, e20, trivial⟩, h⟩
    ·refine wpE_block ?_
     refine qs ?_
     obtain ⟨p130, q14, q140, q141, h⟩ := h
     generalize q149 : p130.add (_ * _) = p13 at h
     refine qy rfl (ycast_p (y_ix Try.underlying23 ts3 e19 e21 q14 q140 q141) q149) ?_
     obtain ⟨v15, c16, h⟩ := h
     refine qy rfl (y_ld ts3 rfl c16) ?_
     refine qa ?_
     refine qn ?_
     refine qs ?_
     refine qm ?_
     refine qy rfl (y_lensl Try.underlying22 (lcons e0 lnil)) ?_
     refine qy rfl (y_bin rfl rfl (bin_gtr _ _ _)) ?_
     refine qn ?_
     refine qc rfl h (fun h => ?_) fun h => ?_
     ·refine qr ?_
      iterate 3 refine qm ?_
      refine qy rfl (y_cvi Try.underlying3 Try.underlying36 rfl) ?_
      refine qm ?_
      refine qy rfl (y_lensl Try.underlying22 (lcons e0 lnil)) ?_
      refine qy rfl (y_cvi Try.underlying3 Try.underlying36 rfl) ?_
      obtain ⟨q17, h⟩ := h
      refine qy rfl (y_bin rfl rfl (bin_rem _ _ _ q17)) ?_
      refine qy rfl (y_cvi Try.underlying36 Try.underlying3 rfl) ?_
      obtain ⟨p180, q19, q190, q191, h⟩ := h
      generalize q199 : p180.add (_ * _) = p18 at h
      refine qy rfl (ycast_p (y_ix Try.underlying22 ts35 e0 rfl q19 q190 q191) q199) ?_
      obtain ⟨v20, c21, h⟩ := h
      refine qy rfl (y_lda ts35 rfl rfl c21) ?_
      refine wpL_bsf Try.underlying22 ts35 tz35 rfl rfl (pcons rfl rfl) (full_cons rfl rfl full_nil) rfl h rfl ?_
      intro b22 hp h
      refine wpL_appsI Try.underlying22 Try.underlying22 ts35 ti35 (by decide) tz35 rfl (lcons e5 (lcons rfl lnil)) h rfl ?_
      intro v24 hp h
      refine qa ?_
      refine qn ?_
      exact ⟨v24, ⟨rfl, e0, e19, e20, e21, trivial⟩, h⟩
     ·refine wpE_skip ?_
      exact ⟨u6.1, ⟨e5, e0, e19, e20, e21, trivial⟩, h⟩
   ·refine wpE_exit ?_
    refine qe ?_
    refine qs ?_
    refine qm ?_
    refine wpL_bsl Try.underlying40 ts22 tz22 rfl rfl rfl (pcons e5 rfl) rfl h rfl ?_
    intro b26 hp h
    refine wpL_call (vs := [Sl.enc (Sl.mk (some b26) 1 1)]) tc4 (lcons rfl lnil) (crannoglaw22_small.lift h) rfl ?_
    intro r28 hp h
    refine qy rfl (y_not rfl) ?_
    refine qn ?_
    refine qc rfl h (fun h => ?_) fun h => ?_
    ·refine qs ?_
     refine wpL_call (vs := []) tc5 lnil (crannoglaw22_awake.lift h) rfl ?_
     intro r30 hp h
     refine qa ?_
     refine qn ?_
     refine wpE_ret ?_
     exact body_r r30 rfl (rs_tmp rfl rs_nil) rfl h
    ·refine wpE_skip ?_
     refine qe ?_
     refine qs ?_
     refine qm ?_
     refine qy rfl (y_lensl Try.underlying22 (lcons e0 lnil)) ?_
     refine qy rfl (y_bin rfl rfl (bin_sub _ _ _)) ?_
     refine qa ?_
     refine qn ?_
     refine wpE_block ?_
     obtain ⟨I35, m0, h, hI35⟩ := h
     refine wpE_loop (fun m ρ hp => ∃ u32 : Sl × Int, (ρ 5 = Sl.enc u32.1 ∧ ρ 8 = .int .i64 u32.2 ∧ ρ 0 = Sl.enc a0 ∧ True) ∧ I35 m u32 hp) (m := m0) ⟨(u6.1, IntKind.wrap .i64 ((a0.len : Int) - (1 : Int))), ⟨e5, rfl, e0, trivial⟩, h⟩ ?_
     rintro m ρ hp ⟨u32, ⟨e5, e8, e0, _⟩, h⟩
     replace h := hI35 m u32 hp h
     refine qe ?_
     refine qs ?_
     refine qm ?_
     refine qy rfl (y_bin e8 rfl (bin_geq _ _ _)) ?_
     refine qn ?_
     refine qc rfl h (fun h => ?_) fun h => ?_
     ·refine wpE_skip ?_
      refine qb ?_
      refine qr ?_
      iterate 3 refine qm ?_
      obtain ⟨p360, q37, q370, q371, h⟩ := h
      generalize q379 : p360.add (_ * _) = p36 at h
      refine qy rfl (ycast_p (y_ix Try.underlying22 ts35 e0 e8 q37 q370 q371) q379) ?_
      obtain ⟨v38, c39, h⟩ := h
      refine qy rfl (y_lda ts35 rfl rfl c39) ?_
      refine wpL_bsf Try.underlying22 ts35 tz35 rfl rfl (pcons rfl rfl) (full_cons rfl rfl full_nil) rfl h rfl ?_
      intro b40 hp h
      refine wpL_appsI Try.underlying22 Try.underlying22 ts35 ti35 (by decide) tz35 rfl (lcons e5 (lcons rfl lnil)) h rfl ?_
      intro v42 hp h
      refine qa ?_
      refine qn ?_
      refine qr ?_
      refine qm ?_
      refine qy rfl (y_bin e8 rfl (bin_sub _ _ _)) ?_
      refine qa ?_
      refine qn ?_
      obtain ⟨m, hm, h⟩ := h
      exact ⟨m, hm, (v42, IntKind.wrap .i64 (u32.2 - (1 : Int))), ⟨rfl, rfl, e0, trivial⟩, h⟩
     ·refine wpE_exit ?_
      obtain ⟨K45, jK45, h⟩ := h
      refine wpE_seqJH K45 (fun (x44 : Bool) (ρ : Env) (hp : Hp) => ρ 4 = .bool x44 ∧ True) (fun ρ x44 hp f h => ?_) ?_
      ·obtain ⟨e4, _⟩ := f
       replace h := jK45 x44 hp h
       refine wpE_ret ?_
       exact body_r x44 rfl (rs_tmp e4 rs_nil) rfl h
      ·refine qr ?_
       refine qm ?_
       refine wpL_call (vs := [Sl.enc u32.1]) tc7 (lcons e5 lnil) (model_Fold.lift h) rfl ?_
       intro r47 hp h
       refine qm ?_
       refine wpL_call (vs := [Sl.enc a0]) tc7 (lcons e0 lnil) (model_Fold.lift h) rfl ?_
       intro r49 hp h
       refine wpL_call (vs := [S_api_State.enc r47, S_api_State.enc r49]) tc6 (lcons rfl (lcons rfl lnil)) (crannogref10_Same.lift h) rfl ?_
       intro r51 hp h
       refine qm ?_
       refine wpL_split h (fun g53 h => ?_) (fun g53 h => ?_)
       ·refine qg rfl g53 ?_
        refine wpL_call (vs := []) tc5 lnil (crannoglaw22_awake.lift h) rfl ?_
        intro r54 hp h
        refine qy rfl (y_pickt (vbool rfl g53)) ?_
        refine qa ?_
        refine qn ?_
        exact ⟨r54, ⟨rfl, trivial⟩, h⟩
       ·refine qp rfl g53 ?_
        refine qy rfl (y_pickf (vbool rfl g53)) ?_
        refine qa ?_
        refine qn ?_
        exact ⟨false, ⟨rfl, trivial⟩, h⟩
 ·refine qr ?_
  refine qm ?_
  refine wpL_bsl Try.underlying40 ts22 tz22 rfl rfl rfl (pcons rfl rfl) rfl h rfl ?_
  intro b56 hp h
  refine wpL_call (vs := [Sl.enc (Sl.mk (some b56) 1 1)]) tc4 (lcons rfl lnil) (crannoglaw22_small.lift h) rfl ?_
  intro r58 hp h
  refine qy rfl (y_not rfl) ?_
  refine qm ?_
  refine wpL_split h (fun g60 h => ?_) (fun g60 h => ?_)
  ·refine qp rfl g60 ?_
   iterate 2 refine qp rfl g60 ?_
   refine qy rfl (y_pickt (vbool rfl g60)) ?_
   refine qn ?_
   exact ⟨true, ⟨rfl, rfl, rfl, trivial⟩, h⟩
  ·refine qg rfl g60 ?_
   refine qm ?_
   refine qg rfl g60 ?_
   refine qy rfl (y_lensl Try.underlying23 (lcons rfl lnil)) ?_
   refine qg rfl g60 ?_
   refine qy rfl (y_bin rfl rfl (bin_gtr _ _ _)) ?_
   refine qy rfl (y_pickf (vbool rfl g60)) ?_
   refine qn ?_
   exact ⟨(decide ((a1.len : Int) > (100 : Int))), ⟨rfl, rfl, rfl, trivial⟩, h⟩

end Go.Proofs.L
