/- Each function of the program does what its formula says: printed by a program of the prover's own. -/
import Derived.Test.YtnnlipkoedbnfaaGreatTm
import Derived.Test.YtnnlipkoedbnfaaGreatLa
import Derived.Test.YtnnlipkoedbnfaaGreatTf
import Derived.Test.YtnnlipkoedbnfaaGreatTla
import Derived.Test.YtnnlipkoedbnfaaGreatTlb
set_option linter.unusedVariables false
namespace Go.Proofs.L
open Go.Lf Go.Crn
set_option maxHeartbeats 4000000 in
theorem crannogref09_Later.lift {a0 : S_api_Stamp} {a1 : S_api_Stamp} {Q : S_api_Stamp → Hp → Prop} {hp : Hp} (h : crannogref09_Later a0 a1 Q hp) : CallsH Tryz.prog 95 #[S_api_Stamp.enc a0, S_api_Stamp.enc a1] hp (Rt S_api_Stamp.enc Q) := by
 unfold crannogref09_Later at h
 refine calls_of 10 Tryz.func95 rfl rfl ?_
 refine qs ?_
 refine wpL_boxX (vs := (S_api_Stamp.cells a0)) rfl rfl Bx.nil h rfl ?_
 intro b1 hp h bx
 refine wpL_boxX (vs := (S_api_Stamp.cells a1)) rfl rfl bx h rfl ?_
 intro b3 hp h bx
 refine wpL_allocX (zs := (S_api_Stamp.cells (S_api_Stamp.mk 0 0))) tz24 rfl bx h rfl ?_
 intro b5 hp h bx
 refine qn ?_
 refine qe ?_
 refine qs ?_
 refine qy rfl (y_lda (cs := (S_api_Stamp.cells a0)) ts24 rfl rfl (Bx.row bx 2 0 rfl (by kernel_rfl))) ?_
 refine qy rfl (y_lda (cs := (S_api_Stamp.cells a1)) ts24 rfl rfl (Bx.row bx 1 0 rfl (by kernel_rfl))) ?_
 refine wpL_call (vs := [S_api_Stamp.enc a0, S_api_Stamp.enc a1]) tc73 (lcons rfl (lcons rfl lnil)) (crannogref09_Less.lift h) rfl ?_
 intro r7 hp h
 obtain ⟨kx, h⟩ := h
 replace bx := Bx.keep bx kx rfl
 refine qn ?_
 refine qc rfl h (fun h => ?_) fun h => ?_
 ·refine qs ?_
  refine qy rfl (y_lda (cs := (S_api_Stamp.cells a1)) ts24 rfl rfl (Bx.row bx 1 0 rfl (by kernel_rfl))) ?_
  refine wpL_staX (L' := [(b5, (S_api_Stamp.cells a1)), (b3, (S_api_Stamp.cells a1)), (b1, (S_api_Stamp.cells a0))]) (i := 0) (off := 0) (cs' := (S_api_Stamp.cells a1)) ts24 rfl rfl rfl rfl bx rfl (by kernel_rfl) h (by kernel_rfl) (by kernel_rfl) ?_
  intro hp h bx
  refine qn ?_
  refine wpE_ret ?_
  exact body_r a1 rfl (rs_cella ts24 rfl rfl (Bx.row bx 0 0 rfl (by kernel_rfl)) rs_nil) rfl h
 ·refine wpE_skip ?_
  refine qs ?_
  refine qy rfl (y_lda (cs := (S_api_Stamp.cells a0)) ts24 rfl rfl (Bx.row bx 2 0 rfl (by kernel_rfl))) ?_
  refine wpL_staX (L' := [(b5, (S_api_Stamp.cells a0)), (b3, (S_api_Stamp.cells a1)), (b1, (S_api_Stamp.cells a0))]) (i := 0) (off := 0) (cs' := (S_api_Stamp.cells a0)) ts24 rfl rfl rfl rfl bx rfl (by kernel_rfl) h (by kernel_rfl) (by kernel_rfl) ?_
  intro hp h bx
  refine qn ?_
  refine wpE_ret ?_
  exact body_r a0 rfl (rs_cella ts24 rfl rfl (Bx.row bx 0 0 rfl (by kernel_rfl)) rs_nil) rfl h

set_option maxHeartbeats 4000000 in
theorem crannogref11_Link.lift {a0 : S_api_Link} {a1 : S_api_Link} {Q : S_api_Link → Hp → Prop} {hp : Hp} (h : crannogref11_Link a0 a1 Q hp) : CallsH Tryz.prog 74 #[S_api_Link.enc a0, S_api_Link.enc a1] hp (Rt S_api_Link.enc Q) := by
 unfold crannogref11_Link at h
 refine calls_of 68 Tryz.func74 rfl rfl ?_
 refine qs ?_
 refine wpL_boxX (vs := (S_api_Link.cells a0)) rfl rfl Bx.nil h rfl ?_
 intro b1 hp h bx
 refine wpL_boxX (vs := (S_api_Link.cells a1)) rfl rfl bx h rfl ?_
 intro b3 hp h bx
 refine wpL_allocX (zs := (S_api_Link.cells (S_api_Link.mk (S_api_Stamp.mk 0 0) (S_api_Stamp.mk 0 0) (S_api_Stamp.mk 0 0) (S_api_Stamp.mk 0 0) [] (A8.mk 0 0 0 0 0 0 0 0) (A8.mk 0 0 0 0 0 0 0 0)))) tz58 rfl bx h rfl ?_
 intro b5 hp h bx
 refine qn ?_
 refine qs ?_
 refine qy rfl (y_lda (cs := (S_api_Link.cells a0)) ts58 rfl rfl (Bx.row bx 2 0 rfl (by kernel_rfl))) ?_
 refine wpL_allocX (zs := (S_api_Link.cells (S_api_Link.mk (S_api_Stamp.mk 0 0) (S_api_Stamp.mk 0 0) (S_api_Stamp.mk 0 0) (S_api_Stamp.mk 0 0) [] (A8.mk 0 0 0 0 0 0 0 0) (A8.mk 0 0 0 0 0 0 0 0)))) tz58 rfl bx h rfl ?_
 intro b7 hp h bx
 refine wpL_staX (L' := [(b7, (S_api_Link.cells a0)), (b5, (S_api_Link.cells (S_api_Link.mk (S_api_Stamp.mk 0 0) (S_api_Stamp.mk 0 0) (S_api_Stamp.mk 0 0) (S_api_Stamp.mk 0 0) [] (A8.mk 0 0 0 0 0 0 0 0) (A8.mk 0 0 0 0 0 0 0 0)))), (b3, (S_api_Link.cells a1)), (b1, (S_api_Link.cells a0))]) (i := 0) (off := 0) (cs' := (S_api_Link.cells a0)) ts58 rfl rfl rfl rfl bx rfl (by kernel_rfl) h (by kernel_rfl) (by kernel_rfl) ?_
 intro hp h bx
 refine qn ?_
 obtain ⟨K11, jK11, h⟩ := h
 refine wpE_seqJH K11 (fun (x10 : S_api_Link) (ρ : Env) (hp : Hp) => ρ 2 = .pointer (some b1) ∧ ρ 3 = .pointer (some b3) ∧ ρ 4 = .pointer (some b5) ∧ ρ 5 = .pointer (some b7) ∧ Bx hp [(b7, (S_api_Link.cells x10)), (b5, (S_api_Link.cells (S_api_Link.mk (S_api_Stamp.mk 0 0) (S_api_Stamp.mk 0 0) (S_api_Stamp.mk 0 0) (S_api_Stamp.mk 0 0) [] (A8.mk 0 0 0 0 0 0 0 0) (A8.mk 0 0 0 0 0 0 0 0)))), (b3, (S_api_Link.cells a1)), (b1, (S_api_Link.cells a0))]) (fun ρ x10 hp f h => ?_) ?_
 ·obtain ⟨e2, e3, e4, e5, bx⟩ := f
  replace h := jK11 x10 hp h
  refine qs ?_
  refine qy rfl (y_fa fa58_1 e2) ?_
  refine qy rfl (y_lda (cs := (S_api_Stamp.cells a0.Node)) ts24 rfl rfl (Bx.row bx 3 2 rfl (by kernel_rfl))) ?_
  refine qy rfl (y_fa fa58_1 e3) ?_
  refine qy rfl (y_lda (cs := (S_api_Stamp.cells a1.Node)) ts24 rfl rfl (Bx.row bx 2 2 rfl (by kernel_rfl))) ?_
  refine wpL_call (vs := [S_api_Stamp.enc a0.Node, S_api_Stamp.enc a1.Node]) tc95 (lcons rfl (lcons rfl lnil)) (crannogref09_Later.lift h) rfl ?_
  intro r13 hp h
  obtain ⟨kx, h⟩ := h
  replace bx := Bx.keep bx kx rfl
  refine qy rfl (y_fa fa58_1 e5) ?_
  refine wpL_staX (L' := [(b7, (S_api_Link.cells (S_api_Link.mk x10.Id r13 x10.At x10.Parent x10.Name x10.Alive x10.Dead))), (b5, (S_api_Link.cells (S_api_Link.mk (S_api_Stamp.mk 0 0) (S_api_Stamp.mk 0 0) (S_api_Stamp.mk 0 0) (S_api_Stamp.mk 0 0) [] (A8.mk 0 0 0 0 0 0 0 0) (A8.mk 0 0 0 0 0 0 0 0)))), (b3, (S_api_Link.cells a1)), (b1, (S_api_Link.cells a0))]) (i := 0) (off := 2) (cs' := (S_api_Link.cells (S_api_Link.mk x10.Id r13 x10.At x10.Parent x10.Name x10.Alive x10.Dead))) ts24 rfl rfl rfl rfl bx rfl (by kernel_rfl) h (by kernel_rfl) (by kernel_rfl) ?_
  intro hp h bx
  refine qn ?_
  refine qs ?_
  refine qy rfl (y_fa fa58_5 e2) ?_
  refine qy rfl (y_lda (cs := ((A8.cells .i64) a0.Alive)) ts26 rfl rfl (Bx.row bx 3 9 rfl (by kernel_rfl))) ?_
  refine qy rfl (y_fa fa58_5 e3) ?_
  refine qy rfl (y_lda (cs := ((A8.cells .i64) a1.Alive)) ts26 rfl rfl (Bx.row bx 2 9 rfl (by kernel_rfl))) ?_
  refine wpL_call (vs := [A8.enc .i64 a0.Alive, A8.enc .i64 a1.Alive]) tc33 (lcons rfl (lcons rfl lnil)) (crannogref09_Join.lift h) rfl ?_
  intro r16 hp h
  obtain ⟨kx, h⟩ := h
  replace bx := Bx.keep bx kx rfl
  refine qy rfl (y_fa fa58_5 e5) ?_
  refine wpL_staX (L' := [(b7, (S_api_Link.cells (S_api_Link.mk x10.Id r13 x10.At x10.Parent x10.Name r16 x10.Dead))), (b5, (S_api_Link.cells (S_api_Link.mk (S_api_Stamp.mk 0 0) (S_api_Stamp.mk 0 0) (S_api_Stamp.mk 0 0) (S_api_Stamp.mk 0 0) [] (A8.mk 0 0 0 0 0 0 0 0) (A8.mk 0 0 0 0 0 0 0 0)))), (b3, (S_api_Link.cells a1)), (b1, (S_api_Link.cells a0))]) (i := 0) (off := 9) (cs' := (S_api_Link.cells (S_api_Link.mk x10.Id r13 x10.At x10.Parent x10.Name r16 x10.Dead))) ts26 rfl rfl rfl rfl bx rfl (by kernel_rfl) h (by kernel_rfl) (by kernel_rfl) ?_
  intro hp h bx
  refine qn ?_
  refine qs ?_
  refine qy rfl (y_fa fa58_6 e2) ?_
  refine qy rfl (y_lda (cs := ((A8.cells .i64) a0.Dead)) ts26 rfl rfl (Bx.row bx 3 17 rfl (by kernel_rfl))) ?_
  refine qy rfl (y_fa fa58_6 e3) ?_
  refine qy rfl (y_lda (cs := ((A8.cells .i64) a1.Dead)) ts26 rfl rfl (Bx.row bx 2 17 rfl (by kernel_rfl))) ?_
  refine wpL_call (vs := [A8.enc .i64 a0.Dead, A8.enc .i64 a1.Dead]) tc33 (lcons rfl (lcons rfl lnil)) (crannogref09_Join.lift h) rfl ?_
  intro r19 hp h
  obtain ⟨kx, h⟩ := h
  replace bx := Bx.keep (bx.sub (L' := [(b7, (S_api_Link.cells (S_api_Link.mk x10.Id r13 x10.At x10.Parent x10.Name r16 x10.Dead))), (b5, (S_api_Link.cells (S_api_Link.mk (S_api_Stamp.mk 0 0) (S_api_Stamp.mk 0 0) (S_api_Stamp.mk 0 0) (S_api_Stamp.mk 0 0) [] (A8.mk 0 0 0 0 0 0 0 0) (A8.mk 0 0 0 0 0 0 0 0))))]) (.cons_cons _ (.cons_cons _ (.cons _ (.cons _ .slnil))))) kx rfl
  refine qy rfl (y_fa fa58_6 e5) ?_
  refine wpL_staX (L' := [(b7, (S_api_Link.cells (S_api_Link.mk x10.Id r13 x10.At x10.Parent x10.Name r16 r19))), (b5, (S_api_Link.cells (S_api_Link.mk (S_api_Stamp.mk 0 0) (S_api_Stamp.mk 0 0) (S_api_Stamp.mk 0 0) (S_api_Stamp.mk 0 0) [] (A8.mk 0 0 0 0 0 0 0 0) (A8.mk 0 0 0 0 0 0 0 0))))]) (i := 0) (off := 17) (cs' := (S_api_Link.cells (S_api_Link.mk x10.Id r13 x10.At x10.Parent x10.Name r16 r19))) ts26 rfl rfl rfl rfl bx rfl (by kernel_rfl) h (by kernel_rfl) (by kernel_rfl) ?_
  intro hp h bx
  refine qn ?_
  refine qs ?_
  refine qy rfl (y_lda (cs := (S_api_Link.cells (S_api_Link.mk x10.Id r13 x10.At x10.Parent x10.Name r16 r19))) ts58 rfl e5 (Bx.row bx 0 0 rfl (by kernel_rfl))) ?_
  refine wpL_staX (L' := [(b7, (S_api_Link.cells (S_api_Link.mk x10.Id r13 x10.At x10.Parent x10.Name r16 r19))), (b5, (S_api_Link.cells (S_api_Link.mk x10.Id r13 x10.At x10.Parent x10.Name r16 r19)))]) (i := 1) (off := 0) (cs' := (S_api_Link.cells (S_api_Link.mk x10.Id r13 x10.At x10.Parent x10.Name r16 r19))) ts58 e4 rfl rfl rfl bx rfl (by kernel_rfl) h (by kernel_rfl) (by kernel_rfl) ?_
  intro hp h bx
  refine qn ?_
  refine wpE_ret ?_
  exact body_r (S_api_Link.mk x10.Id r13 x10.At x10.Parent x10.Name r16 r19) rfl (rs_cella ts58 rfl e4 (Bx.row bx 1 0 rfl (by kernel_rfl)) rs_nil) rfl h
 ·obtain ⟨K24, jK24, h⟩ := h
  refine wpE_seqJH K24 (fun (x23 : Bool) (ρ : Env) (hp : Hp) => ρ 39 = .bool x23 ∧ ρ 2 = .pointer (some b1) ∧ ρ 3 = .pointer (some b3) ∧ ρ 4 = .pointer (some b5) ∧ ρ 5 = .pointer (some b7) ∧ Bx hp [(b7, (S_api_Link.cells a0)), (b5, (S_api_Link.cells (S_api_Link.mk (S_api_Stamp.mk 0 0) (S_api_Stamp.mk 0 0) (S_api_Stamp.mk 0 0) (S_api_Stamp.mk 0 0) [] (A8.mk 0 0 0 0 0 0 0 0) (A8.mk 0 0 0 0 0 0 0 0)))), (b3, (S_api_Link.cells a1)), (b1, (S_api_Link.cells a0))]) (fun ρ x23 hp f h => ?_) ?_
  ·obtain ⟨e39, e2, e3, e4, e5, bx⟩ := f
   replace h := jK24 x23 hp h
   refine qc e39 h (fun h => ?_) fun h => ?_
   ·refine qs ?_
    refine qy rfl (y_fa fa58_2 e3) ?_
    refine qy rfl (y_lda (cs := (S_api_Stamp.cells a1.At)) ts24 rfl rfl (Bx.row bx 2 4 rfl (by kernel_rfl))) ?_
    refine qy rfl (y_fa fa58_2 e5) ?_
    refine wpL_staX (L' := [(b7, (S_api_Link.cells (S_api_Link.mk a0.Id a0.Node a1.At a0.Parent a0.Name a0.Alive a0.Dead))), (b5, (S_api_Link.cells (S_api_Link.mk (S_api_Stamp.mk 0 0) (S_api_Stamp.mk 0 0) (S_api_Stamp.mk 0 0) (S_api_Stamp.mk 0 0) [] (A8.mk 0 0 0 0 0 0 0 0) (A8.mk 0 0 0 0 0 0 0 0)))), (b3, (S_api_Link.cells a1)), (b1, (S_api_Link.cells a0))]) (i := 0) (off := 4) (cs' := (S_api_Link.cells (S_api_Link.mk a0.Id a0.Node a1.At a0.Parent a0.Name a0.Alive a0.Dead))) ts24 rfl rfl rfl rfl bx rfl (by kernel_rfl) h (by kernel_rfl) (by kernel_rfl) ?_
    intro hp h bx
    refine qn ?_
    refine qs ?_
    refine qy rfl (y_fa fa58_3 e3) ?_
    refine qy rfl (y_lda (cs := (S_api_Stamp.cells a1.Parent)) ts24 rfl rfl (Bx.row bx 2 6 rfl (by kernel_rfl))) ?_
    refine qy rfl (y_fa fa58_3 e5) ?_
    refine wpL_staX (L' := [(b7, (S_api_Link.cells (S_api_Link.mk a0.Id a0.Node a1.At a1.Parent a0.Name a0.Alive a0.Dead))), (b5, (S_api_Link.cells (S_api_Link.mk (S_api_Stamp.mk 0 0) (S_api_Stamp.mk 0 0) (S_api_Stamp.mk 0 0) (S_api_Stamp.mk 0 0) [] (A8.mk 0 0 0 0 0 0 0 0) (A8.mk 0 0 0 0 0 0 0 0)))), (b3, (S_api_Link.cells a1)), (b1, (S_api_Link.cells a0))]) (i := 0) (off := 6) (cs' := (S_api_Link.cells (S_api_Link.mk a0.Id a0.Node a1.At a1.Parent a0.Name a0.Alive a0.Dead))) ts24 rfl rfl rfl rfl bx rfl (by kernel_rfl) h (by kernel_rfl) (by kernel_rfl) ?_
    intro hp h bx
    refine qn ?_
    refine qr ?_
    refine qy rfl (y_fa fa58_4 e3) ?_
    refine qy rfl (y_ld (v := (vS a1.Name)) ts9 rfl (Bx.cell bx 2 8 rfl (by kernel_rfl))) ?_
    refine qy rfl (y_fa fa58_4 e5) ?_
    refine wpL_stX (L' := [(b7, (S_api_Link.cells (S_api_Link.mk a0.Id a0.Node a1.At a1.Parent a1.Name a0.Alive a0.Dead))), (b5, (S_api_Link.cells (S_api_Link.mk (S_api_Stamp.mk 0 0) (S_api_Stamp.mk 0 0) (S_api_Stamp.mk 0 0) (S_api_Stamp.mk 0 0) [] (A8.mk 0 0 0 0 0 0 0 0) (A8.mk 0 0 0 0 0 0 0 0)))), (b3, (S_api_Link.cells a1)), (b1, (S_api_Link.cells a0))]) (i := 0) (off := 8) ts9 rfl rfl rfl bx rfl rfl h (by kernel_rfl) ?_
    intro hp h bx
    refine qn ?_
    exact ⟨(S_api_Link.mk a0.Id a0.Node a1.At a1.Parent a1.Name a0.Alive a0.Dead), ⟨e2, e3, e4, e5, bx⟩, h⟩
   ·refine wpE_skip ?_
    exact ⟨a0, ⟨e2, e3, e4, e5, bx⟩, h⟩
  ·refine qr ?_
   refine qy rfl (y_fa fa58_2 rfl) ?_
   refine qy rfl (y_lda (cs := (S_api_Stamp.cells a0.At)) ts24 rfl rfl (Bx.row bx 3 4 rfl (by kernel_rfl))) ?_
   refine qy rfl (y_fa fa58_2 rfl) ?_
   refine qy rfl (y_lda (cs := (S_api_Stamp.cells a1.At)) ts24 rfl rfl (Bx.row bx 2 4 rfl (by kernel_rfl))) ?_
   refine wpL_call (vs := [S_api_Stamp.enc a0.At, S_api_Stamp.enc a1.At]) tc73 (lcons rfl (lcons rfl lnil)) (crannogref09_Less.lift h) rfl ?_
   intro r29 hp h
   obtain ⟨kx, h⟩ := h
   replace bx := Bx.keep bx kx rfl
   refine qm ?_
   refine wpL_split h (fun g31 h => ?_) (fun g31 h => ?_)
   ·refine qp rfl g31 ?_
    iterate 5 refine qp rfl g31 ?_
    iterate 19 refine qu rfl ?_
    refine qp rfl g31 ?_
    refine qy rfl (y_pickt (vbool rfl g31)) ?_
    refine qn ?_
    exact ⟨true, ⟨rfl, rfl, rfl, rfl, rfl, bx⟩, h⟩
   ·refine qg rfl g31 ?_
    refine qy rfl (y_fa fa58_2 rfl) ?_
    refine qg rfl g31 ?_
    refine qy rfl (y_lda (cs := (S_api_Stamp.cells a0.At)) ts24 rfl rfl (Bx.row bx 3 4 rfl (by kernel_rfl))) ?_
    refine qg rfl g31 ?_
    refine qy rfl (y_fa fa58_2 rfl) ?_
    refine qg rfl g31 ?_
    refine qy rfl (y_lda (cs := (S_api_Stamp.cells a1.At)) ts24 rfl rfl (Bx.row bx 2 4 rfl (by kernel_rfl))) ?_
    refine qg rfl g31 ?_
    refine qy rfl (y_bin rfl rfl (eq24 _ _)) ?_
    refine qg rfl g31 ?_
    refine qm ?_
    refine wpL_split h (fun g32 h => ?_) (fun g32 h => ?_)
    ·refine qg rfl g32 ?_
     refine qy rfl (y_fa fa58_3 rfl) ?_
     refine qg rfl g32 ?_
     refine qy rfl (y_lda (cs := (S_api_Stamp.cells a0.Parent)) ts24 rfl rfl (Bx.row bx 3 6 rfl (by kernel_rfl))) ?_
     refine qg rfl g32 ?_
     refine qy rfl (y_fa fa58_3 rfl) ?_
     refine qg rfl g32 ?_
     refine qy rfl (y_lda (cs := (S_api_Stamp.cells a1.Parent)) ts24 rfl rfl (Bx.row bx 2 6 rfl (by kernel_rfl))) ?_
     refine qg rfl g32 ?_
     refine wpL_call (vs := [S_api_Stamp.enc a0.Parent, S_api_Stamp.enc a1.Parent]) tc73 (lcons rfl (lcons rfl lnil)) (crannogref09_Less.lift h) rfl ?_
     intro r33 hp h
     obtain ⟨kx, h⟩ := h
     replace bx := Bx.keep bx kx rfl
     refine qg rfl g32 ?_
     refine qm ?_
     refine wpL_split h (fun g35 h => ?_) (fun g35 h => ?_)
     ·refine qp rfl g35 ?_
      iterate 5 refine qp rfl g35 ?_
      iterate 5 refine qu rfl ?_
      refine qp rfl g35 ?_
      refine qg rfl g32 ?_
      refine qy rfl (y_pickt (vbool rfl g35)) ?_
      refine qg rfl g31 ?_
      refine qy rfl (y_pickt (vbool rfl g32)) ?_
      refine qy rfl (y_pickf (vbool rfl g31)) ?_
      refine qn ?_
      exact ⟨true, ⟨rfl, rfl, rfl, rfl, rfl, bx⟩, h⟩
     ·refine qg rfl g35 ?_
      refine qy rfl (y_fa fa58_3 rfl) ?_
      refine qg rfl g35 ?_
      refine qy rfl (y_lda (cs := (S_api_Stamp.cells a0.Parent)) ts24 rfl rfl (Bx.row bx 3 6 rfl (by kernel_rfl))) ?_
      refine qg rfl g35 ?_
      refine qy rfl (y_fa fa58_3 rfl) ?_
      refine qg rfl g35 ?_
      refine qy rfl (y_lda (cs := (S_api_Stamp.cells a1.Parent)) ts24 rfl rfl (Bx.row bx 2 6 rfl (by kernel_rfl))) ?_
      refine qg rfl g35 ?_
      refine qy rfl (y_bin rfl rfl (eq24 _ _)) ?_
      refine qg rfl g35 ?_
      refine qm ?_
      refine wpL_split h (fun g36 h => ?_) (fun g36 h => ?_)
      ·refine qg rfl g36 ?_
       refine qy rfl (y_fa fa58_4 rfl) ?_
       refine qg rfl g36 ?_
       refine qy rfl (y_ld (v := (vS a0.Name)) ts9 rfl (Bx.cell bx 3 8 rfl (by kernel_rfl))) ?_
       refine qg rfl g36 ?_
       refine qy rfl (y_fa fa58_4 rfl) ?_
       refine qg rfl g36 ?_
       refine qy rfl (y_ld (v := (vS a1.Name)) ts9 rfl (Bx.cell bx 2 8 rfl (by kernel_rfl))) ?_
       refine qg rfl g36 ?_
       refine wpL_call (vs := [vS a0.Name, vS a1.Name]) tc90 (lcons rfl (lcons rfl lnil)) (crannogref01_Less.lift h) rfl ?_
       intro r37 hp h
       obtain ⟨kx, h⟩ := h
       replace bx := Bx.keep bx kx rfl
       refine qg rfl g35 ?_
       refine qy rfl (y_pickt (vbool rfl g36)) ?_
       refine qg rfl g32 ?_
       refine qy rfl (y_pickf (vbool rfl g35)) ?_
       refine qg rfl g31 ?_
       refine qy rfl (y_pickt (vbool rfl g32)) ?_
       refine qy rfl (y_pickf (vbool rfl g31)) ?_
       refine qn ?_
       exact ⟨r37, ⟨rfl, rfl, rfl, rfl, rfl, bx⟩, h⟩
      ·refine qp rfl g36 ?_
       iterate 4 refine qp rfl g36 ?_
       refine qg rfl g35 ?_
       refine qy rfl (y_pickf (vbool rfl g36)) ?_
       refine qg rfl g32 ?_
       refine qy rfl (y_pickf (vbool rfl g35)) ?_
       refine qg rfl g31 ?_
       refine qy rfl (y_pickt (vbool rfl g32)) ?_
       refine qy rfl (y_pickf (vbool rfl g31)) ?_
       refine qn ?_
       exact ⟨false, ⟨rfl, rfl, rfl, rfl, rfl, bx⟩, h⟩
    ·refine qp rfl g32 ?_
     iterate 5 refine qp rfl g32 ?_
     iterate 12 refine qu rfl ?_
     refine qp rfl g32 ?_
     refine qg rfl g31 ?_
     refine qy rfl (y_pickf (vbool rfl g32)) ?_
     refine qy rfl (y_pickf (vbool rfl g31)) ?_
     refine qn ?_
     exact ⟨false, ⟨rfl, rfl, rfl, rfl, rfl, bx⟩, h⟩

set_option maxHeartbeats 4000000 in
theorem crannogref11_link.lift {a0 : Sl} {a1 : S_api_Link} {Q : Sl → Hp → Prop} {hp : Hp} (h : crannogref11_link a0 a1 Q hp) : CallsH Tryz.prog 35 #[Sl.enc a0, S_api_Link.enc a1] hp (Rt Sl.enc Q) := by
 unfold crannogref11_link at h
 refine calls_of 48 Tryz.func35 rfl rfl ?_
 refine qs ?_
 refine wpL_boxX (vs := (S_api_Link.cells a1)) rfl rfl Bx.nil h rfl ?_
 intro b1 hp h bx
 refine qa ?_
 refine qn ?_
 refine qs ?_
 refine qa ?_
 refine qn ?_
 refine qs ?_
 refine qa ?_
 refine qn ?_
 refine qe ?_
 refine qs ?_
 refine qm ?_
 refine qy rfl (y_lensl Tryz.underlying28 (lcons rfl lnil)) ?_
 refine qm ?_
 refine qn ?_
 refine wpE_block ?_
 obtain ⟨I6, m0, h, hI6⟩ := h
 refine wpE_loop (fun m ρ hp => ∃ u3 : Sl × Bool × Int, (ρ 5 = Sl.enc u3.1 ∧ ρ 6 = .bool u3.2.1 ∧ ρ 11 = .int .i64 u3.2.2 ∧ ρ 3 = .pointer (some b1) ∧ ρ 9 = Sl.enc a0 ∧ ρ 10 = .int .i64 (a0.len : Int) ∧ Bx hp [(b1, (S_api_Link.cells a1))]) ∧ I6 m u3 hp) (m := m0) ⟨(Sl.nil, false, 0), ⟨rfl, rfl, rfl, rfl, rfl, rfl, bx⟩, h⟩ ?_
 rintro m ρ hp ⟨u3, ⟨e5, e6, e11, e3, e9, e10, bx⟩, h⟩
 replace h := hI6 m u3 hp h
 refine qs ?_
 refine qy rfl (y_bin e11 e10 (bin_lss _ _ _)) ?_
 refine qn ?_
 refine qe ?_
 refine qc rfl h (fun h => ?_) fun h => ?_
 ·refine wpE_skip ?_
  refine qb ?_
  refine qs ?_
  obtain ⟨p70, q8, q80, q81, h⟩ := h
  generalize q89 : p70.add (_ * _) = p7 at h
  refine qy rfl (ycast_p (y_ix Tryz.underlying28 ts58 e9 e11 q8 q80 q81) q89) ?_
  obtain ⟨v9, c10, h⟩ := h
  refine qy rfl (y_lda ts58 rfl rfl c10) ?_
  refine wpL_allocX (zs := (S_api_Link.cells (S_api_Link.mk (S_api_Stamp.mk 0 0) (S_api_Stamp.mk 0 0) (S_api_Stamp.mk 0 0) (S_api_Stamp.mk 0 0) [] (A8.mk 0 0 0 0 0 0 0 0) (A8.mk 0 0 0 0 0 0 0 0)))) tz58 rfl bx h rfl ?_
  intro b11 hp h bx
  refine wpL_staX (L' := [(b11, (S_api_Link.cells v9)), (b1, (S_api_Link.cells a1))]) (i := 0) (off := 0) (cs' := (S_api_Link.cells v9)) ts58 rfl rfl rfl rfl bx rfl (by kernel_rfl) h (by kernel_rfl) (by kernel_rfl) ?_
  intro hp h bx
  refine qn ?_
  obtain ⟨K15, jK15, h⟩ := h
  refine wpE_seqJH K15 (fun (x14 : Bool × S_api_Link) (ρ : Env) (hp : Hp) => ρ 6 = .bool x14.1 ∧ ρ 3 = .pointer (some b1) ∧ ρ 5 = Sl.enc u3.1 ∧ ρ 8 = .pointer (some b11) ∧ ρ 9 = Sl.enc a0 ∧ ρ 10 = .int .i64 (a0.len : Int) ∧ ρ 11 = .int .i64 u3.2.2 ∧ Bx hp [(b11, (S_api_Link.cells x14.2)), (b1, (S_api_Link.cells a1))]) (fun ρ x14 hp f h => ?_) ?_
  ·obtain ⟨e6, e3, e5, e8, e9, e10, e11, bx⟩ := f
   replace h := jK15 x14 hp h
   obtain ⟨K18, jK18, h⟩ := h
   refine wpE_seqJH K18 (fun (x17 : Sl × Bool) (ρ : Env) (hp : Hp) => ρ 5 = Sl.enc x17.1 ∧ ρ 6 = .bool x17.2 ∧ ρ 3 = .pointer (some b1) ∧ ρ 8 = .pointer (some b11) ∧ ρ 9 = Sl.enc a0 ∧ ρ 10 = .int .i64 (a0.len : Int) ∧ ρ 11 = .int .i64 u3.2.2 ∧ Bx hp [(b11, (S_api_Link.cells x14.2)), (b1, (S_api_Link.cells a1))]) (fun ρ x17 hp f h => ?_) ?_
   ·obtain ⟨e5, e6, e3, e8, e9, e10, e11, bx⟩ := f
    replace h := jK18 x17 hp h
    refine qr ?_
    refine qm ?_
    refine qy rfl (y_lda (cs := (S_api_Link.cells x14.2)) ts58 rfl e8 (Bx.row bx 0 0 rfl (by kernel_rfl))) ?_
    refine wpL_bsf Tryz.underlying28 ts58 tz58 rfl rfl (pcons rfl rfl) (full_cons rfl rfl full_nil) rfl h rfl ?_
    intro b20 hp h
    obtain ⟨kx, h⟩ := h
    replace bx := Bx.keep (bx.sub (L' := [(b1, (S_api_Link.cells a1))]) (.cons _ (.cons_cons _ .slnil))) kx rfl
    refine wpL_appsI Tryz.underlying28 Tryz.underlying28 ts58 ti58 (by decide) tz58 rfl (lcons e5 (lcons rfl lnil)) h rfl ?_
    intro v22 hp h
    obtain ⟨kx, h⟩ := h
    replace bx := Bx.keep bx kx rfl
    refine qa ?_
    refine qn ?_
    refine qr ?_
    refine qy rfl (y_bin e11 rfl (bin_add _ _ _)) ?_
    refine qm ?_
    refine qn ?_
    obtain ⟨m, hm, h⟩ := h
    exact ⟨m, hm, (v22, x17.2, IntKind.wrap .i64 (u3.2.2 + (1 : Int))), ⟨rfl, e6, rfl, e3, e9, e10, bx⟩, h⟩
   ·obtain ⟨K25, jK25, h⟩ := h
    refine wpE_seqJH K25 (fun (x24 : Bool) (ρ : Env) (hp : Hp) => ρ 31 = .bool x24 ∧ ρ 3 = .pointer (some b1) ∧ ρ 5 = Sl.enc u3.1 ∧ ρ 6 = .bool x14.1 ∧ ρ 8 = .pointer (some b11) ∧ ρ 9 = Sl.enc a0 ∧ ρ 10 = .int .i64 (a0.len : Int) ∧ ρ 11 = .int .i64 u3.2.2 ∧ Bx hp [(b11, (S_api_Link.cells x14.2)), (b1, (S_api_Link.cells a1))]) (fun ρ x24 hp f h => ?_) ?_
    ·obtain ⟨e31, e3, e5, e6, e8, e9, e10, e11, bx⟩ := f
     replace h := jK25 x24 hp h
     refine qc e31 h (fun h => ?_) fun h => ?_
     ·refine qs ?_
      refine qm ?_
      refine qy rfl (y_lda (cs := (S_api_Link.cells a1)) ts58 rfl e3 (Bx.row bx 1 0 rfl (by kernel_rfl))) ?_
      refine wpL_bsf Tryz.underlying28 ts58 tz58 rfl rfl (pcons rfl rfl) (full_cons rfl rfl full_nil) rfl h rfl ?_
      intro b27 hp h
      obtain ⟨kx, h⟩ := h
      replace bx := Bx.keep bx kx rfl
      refine wpL_appsI Tryz.underlying28 Tryz.underlying28 ts58 ti58 (by decide) tz58 rfl (lcons e5 (lcons rfl lnil)) h rfl ?_
      intro v29 hp h
      obtain ⟨kx, h⟩ := h
      replace bx := Bx.keep bx kx rfl
      refine qa ?_
      refine qn ?_
      refine qr ?_
      refine qa ?_
      refine qn ?_
      exact ⟨(v29, true), ⟨rfl, rfl, e3, e8, e9, e10, e11, bx⟩, h⟩
     ·refine wpE_skip ?_
      exact ⟨(u3.1, x14.1), ⟨e5, e6, e3, e8, e9, e10, e11, bx⟩, h⟩
    ·refine qr ?_
     refine qm ?_
     refine qy rfl (y_not e6) ?_
     refine qm ?_
     refine wpL_split h (fun g31 h => ?_) (fun g31 h => ?_)
     ·refine qg rfl g31 ?_
      refine qy rfl (y_fa fa58_0 e3) ?_
      refine qg rfl g31 ?_
      refine qy rfl (y_lda (cs := (S_api_Stamp.cells a1.Id)) ts24 rfl rfl (Bx.row bx 1 0 rfl (by kernel_rfl))) ?_
      refine qg rfl g31 ?_
      refine qy rfl (y_fa fa58_0 e8) ?_
      refine qg rfl g31 ?_
      refine qy rfl (y_lda (cs := (S_api_Stamp.cells x14.2.Id)) ts24 rfl rfl (Bx.row bx 0 0 rfl (by kernel_rfl))) ?_
      refine qg rfl g31 ?_
      refine wpL_call (vs := [S_api_Stamp.enc a1.Id, S_api_Stamp.enc x14.2.Id]) tc73 (lcons rfl (lcons rfl lnil)) (crannogref09_Less.lift h) rfl ?_
      intro r32 hp h
      obtain ⟨kx, h⟩ := h
      replace bx := Bx.keep bx kx rfl
      refine qy rfl (y_pickt (vbool rfl g31)) ?_
      refine qn ?_
      exact ⟨r32, ⟨rfl, e3, e5, e6, e8, e9, e10, e11, bx⟩, h⟩
     ·refine qp rfl g31 ?_
      iterate 4 refine qp rfl g31 ?_
      refine qy rfl (y_pickf (vbool rfl g31)) ?_
      refine qn ?_
      exact ⟨false, ⟨rfl, e3, e5, e6, e8, e9, e10, e11, bx⟩, h⟩
  ·refine qs ?_
   refine qy rfl (y_fa fa58_0 rfl) ?_
   refine qy rfl (y_lda (cs := (S_api_Stamp.cells v9.Id)) ts24 rfl rfl (Bx.row bx 0 0 rfl (by kernel_rfl))) ?_
   refine qy rfl (y_fa fa58_0 e3) ?_
   refine qy rfl (y_lda (cs := (S_api_Stamp.cells a1.Id)) ts24 rfl rfl (Bx.row bx 1 0 rfl (by kernel_rfl))) ?_
   refine qy rfl (y_bin rfl rfl (eq24 _ _)) ?_
   refine qn ?_
   refine qc rfl h (fun h => ?_) fun h => ?_
   ·refine qs ?_
    refine qy rfl (y_lda (cs := (S_api_Link.cells v9)) ts58 rfl rfl (Bx.row bx 0 0 rfl (by kernel_rfl))) ?_
    refine qy rfl (y_lda (cs := (S_api_Link.cells a1)) ts58 rfl e3 (Bx.row bx 1 0 rfl (by kernel_rfl))) ?_
    refine wpL_call (vs := [S_api_Link.enc v9, S_api_Link.enc a1]) tc74 (lcons rfl (lcons rfl lnil)) (crannogref11_Link.lift h) rfl ?_
    intro r34 hp h
    obtain ⟨kx, h⟩ := h
    replace bx := Bx.keep bx kx rfl
    refine wpL_staX (L' := [(b11, (S_api_Link.cells r34)), (b1, (S_api_Link.cells a1))]) (i := 0) (off := 0) (cs' := (S_api_Link.cells r34)) ts58 rfl rfl rfl rfl bx rfl (by kernel_rfl) h (by kernel_rfl) (by kernel_rfl) ?_
    intro hp h bx
    refine qn ?_
    refine qr ?_
    refine qa ?_
    refine qn ?_
    exact ⟨(true, r34), ⟨rfl, e3, e5, rfl, e9, e10, e11, bx⟩, h⟩
   ·refine wpE_skip ?_
    exact ⟨(u3.2.1, v9), ⟨e6, e3, e5, rfl, e9, e10, e11, bx⟩, h⟩
 ·refine wpE_exit ?_
  obtain ⟨K38, jK38, h⟩ := h
  refine wpE_seqJH K38 (fun (x37 : Sl) (ρ : Env) (hp : Hp) => ρ 5 = Sl.enc x37 ∧ True) (fun ρ x37 hp f h => ?_) ?_
  ·obtain ⟨e5, _⟩ := f
   replace h := jK38 x37 hp h
   refine qs ?_
   refine qm ?_
   refine qa ?_
   refine qn ?_
   refine wpE_ret ?_
   exact body_r x37 rfl (rs_tmp e5 rs_nil) rfl h
  ·refine qs ?_
   refine qm ?_
   refine qy rfl (y_not e6) ?_
   refine qn ?_
   refine qc rfl h (fun h => ?_) fun h => ?_
   ·refine qr ?_
    refine qm ?_
    refine qy rfl (y_lda (cs := (S_api_Link.cells a1)) ts58 rfl e3 (Bx.row bx 0 0 rfl (by kernel_rfl))) ?_
    refine wpL_bsf Tryz.underlying28 ts58 tz58 rfl rfl (pcons rfl rfl) (full_cons rfl rfl full_nil) rfl h rfl ?_
    intro b40 hp h
    refine wpL_appsI Tryz.underlying28 Tryz.underlying28 ts58 ti58 (by decide) tz58 rfl (lcons e5 (lcons rfl lnil)) h rfl ?_
    intro v42 hp h
    refine qa ?_
    refine qn ?_
    exact ⟨v42, ⟨rfl, trivial⟩, h⟩
   ·refine wpE_skip ?_
    exact ⟨u3.1, ⟨e5, trivial⟩, h⟩

set_option maxHeartbeats 4000000 in
theorem crannogref11_States.lift {a0 : S_api_State} {a1 : S_api_State} {Q : S_api_State → Hp → Prop} {hp : Hp} (h : crannogref11_States a0 a1 Q hp) : CallsH Tryz.prog 13 #[S_api_State.enc a0, S_api_State.enc a1] hp (Rt S_api_State.enc Q) := by
 unfold crannogref11_States at h
 refine calls_of 73 Tryz.func13 rfl rfl ?_
 refine qs ?_
 refine wpL_boxX (vs := (S_api_State.cells a0)) rfl rfl Bx.nil h rfl ?_
 intro b1 hp h bx
 refine wpL_boxX (vs := (S_api_State.cells a1)) rfl rfl bx h rfl ?_
 intro b3 hp h bx
 refine wpL_allocX (zs := (S_api_State.cells (S_api_State.mk (A8.mk 0 0 0 0 0 0 0 0) Sl.nil Sl.nil))) tz30 rfl bx h rfl ?_
 intro b5 hp h bx
 refine qn ?_
 refine qs ?_
 refine qy rfl (y_fa fa30_0 rfl) ?_
 refine qy rfl (y_lda (cs := ((A8.cells .i64) a0.Seen)) ts26 rfl rfl (Bx.row bx 2 0 rfl (by kernel_rfl))) ?_
 refine qy rfl (y_fa fa30_0 rfl) ?_
 refine qy rfl (y_lda (cs := ((A8.cells .i64) a1.Seen)) ts26 rfl rfl (Bx.row bx 1 0 rfl (by kernel_rfl))) ?_
 refine wpL_call (vs := [A8.enc .i64 a0.Seen, A8.enc .i64 a1.Seen]) tc33 (lcons rfl (lcons rfl lnil)) (crannogref09_Join.lift h) rfl ?_
 intro r7 hp h
 obtain ⟨kx, h⟩ := h
 replace bx := Bx.keep bx kx rfl
 refine qy rfl (y_bl (cs := S_api_State.cells (S_api_State.mk r7 Sl.nil Sl.nil)) pl30 (pcons rfl rfl) rfl) ?_
 refine wpL_allocX (zs := (S_api_State.cells (S_api_State.mk (A8.mk 0 0 0 0 0 0 0 0) Sl.nil Sl.nil))) tz30 rfl bx h rfl ?_
 intro b9 hp h bx
 refine wpL_staX (L' := [(b9, (S_api_State.cells (S_api_State.mk r7 Sl.nil Sl.nil))), (b5, (S_api_State.cells (S_api_State.mk (A8.mk 0 0 0 0 0 0 0 0) Sl.nil Sl.nil))), (b3, (S_api_State.cells a1)), (b1, (S_api_State.cells a0))]) (i := 0) (off := 0) (cs' := (S_api_State.cells (S_api_State.mk r7 Sl.nil Sl.nil))) ts30 rfl rfl rfl rfl bx rfl (by kernel_rfl) h (by kernel_rfl) (by kernel_rfl) ?_
 intro hp h bx
 refine qn ?_
 refine qe ?_
 refine qs ?_
 refine qy rfl (y_fa fa30_1 rfl) ?_
 refine qy rfl (y_ld (v := (Sl.enc a0.Nodes)) ts27 rfl (Bx.cell bx 3 8 rfl (by kernel_rfl))) ?_
 refine qy rfl (y_lensl Tryz.underlying27 (lcons rfl lnil)) ?_
 refine qm ?_
 refine qn ?_
 refine wpE_block ?_
 obtain ⟨I15, m0, h, hI15⟩ := h
 refine wpE_loop (fun m ρ hp => ∃ u12 : Int × S_api_State, (ρ 23 = .int .i64 u12.1 ∧ ρ 2 = .pointer (some b1) ∧ ρ 3 = .pointer (some b3) ∧ ρ 4 = .pointer (some b5) ∧ ρ 5 = .pointer (some b9) ∧ ρ 21 = Sl.enc a0.Nodes ∧ ρ 22 = .int .i64 (a0.Nodes.len : Int) ∧ Bx hp [(b9, (S_api_State.cells u12.2)), (b5, (S_api_State.cells (S_api_State.mk (A8.mk 0 0 0 0 0 0 0 0) Sl.nil Sl.nil))), (b3, (S_api_State.cells a1)), (b1, (S_api_State.cells a0))]) ∧ I15 m u12 hp) (m := m0) ⟨(0, (S_api_State.mk r7 Sl.nil Sl.nil)), ⟨rfl, rfl, rfl, rfl, rfl, rfl, rfl, bx⟩, h⟩ ?_
 rintro m ρ hp ⟨u12, ⟨e23, e2, e3, e4, e5, e21, e22, bx⟩, h⟩
 replace h := hI15 m u12 hp h
 refine qs ?_
 refine qy rfl (y_bin e23 e22 (bin_lss _ _ _)) ?_
 refine qn ?_
 refine qe ?_
 refine qc rfl h (fun h => ?_) fun h => ?_
 ·refine wpE_skip ?_
  refine qb ?_
  refine qs ?_
  obtain ⟨p160, q17, q170, q171, h⟩ := h
  generalize q179 : p160.add (_ * _) = p16 at h
  refine qy rfl (ycast_p (y_ix Tryz.underlying27 ts56 e21 e23 q17 q170 q171) q179) ?_
  obtain ⟨v18, c19, h⟩ := h
  refine qy rfl (y_lda ts56 rfl rfl c19) ?_
  refine wpL_allocX (zs := (S_api_Inode.cells (S_api_Inode.mk (S_api_Stamp.mk 0 0) 0 [] (S_api_Attr.mk (S_api_Stamp.mk 0 0) 0 0) (S_api_Size.mk (S_api_Stamp.mk 0 0) 0) Sl.nil Sl.nil))) tz56 rfl bx h rfl ?_
  intro b20 hp h bx
  refine wpL_staX (L' := [(b20, (S_api_Inode.cells v18)), (b9, (S_api_State.cells u12.2)), (b5, (S_api_State.cells (S_api_State.mk (A8.mk 0 0 0 0 0 0 0 0) Sl.nil Sl.nil))), (b3, (S_api_State.cells a1)), (b1, (S_api_State.cells a0))]) (i := 0) (off := 0) (cs' := (S_api_Inode.cells v18)) ts56 rfl rfl rfl rfl bx rfl (by kernel_rfl) h (by kernel_rfl) (by kernel_rfl) ?_
  intro hp h bx
  refine qn ?_
  refine qr ?_
  refine qy rfl (y_fa fa30_1 e5) ?_
  refine qy rfl (y_ld (v := (Sl.enc u12.2.Nodes)) ts27 rfl (Bx.cell bx 1 8 rfl (by kernel_rfl))) ?_
  refine qy rfl (y_lda (cs := (S_api_Inode.cells v18)) ts56 rfl rfl (Bx.row bx 0 0 rfl (by kernel_rfl))) ?_
  refine wpL_call (vs := [Sl.enc u12.2.Nodes, S_api_Inode.enc v18]) tc34 (lcons rfl (lcons rfl lnil)) (crannogref11_node.lift h) rfl ?_
  intro r23 hp h
  obtain ⟨kx, h⟩ := h
  replace bx := Bx.keep (bx.sub (L' := [(b9, (S_api_State.cells u12.2)), (b5, (S_api_State.cells (S_api_State.mk (A8.mk 0 0 0 0 0 0 0 0) Sl.nil Sl.nil))), (b3, (S_api_State.cells a1)), (b1, (S_api_State.cells a0))]) (.cons _ (.cons_cons _ (.cons_cons _ (.cons_cons _ (.cons_cons _ .slnil)))))) kx rfl
  refine qy rfl (y_fa fa30_1 e5) ?_
  refine wpL_stX (L' := [(b9, (S_api_State.cells (S_api_State.mk u12.2.Seen r23 u12.2.Links))), (b5, (S_api_State.cells (S_api_State.mk (A8.mk 0 0 0 0 0 0 0 0) Sl.nil Sl.nil))), (b3, (S_api_State.cells a1)), (b1, (S_api_State.cells a0))]) (i := 0) (off := 8) ts27 rfl rfl rfl bx rfl rfl h (by kernel_rfl) ?_
  intro hp h bx
  refine qn ?_
  refine qr ?_
  refine qy rfl (y_bin e23 rfl (bin_add _ _ _)) ?_
  refine qm ?_
  refine qn ?_
  obtain ⟨m, hm, h⟩ := h
  exact ⟨m, hm, (IntKind.wrap .i64 (u12.1 + (1 : Int)), (S_api_State.mk u12.2.Seen r23 u12.2.Links)), ⟨rfl, e2, e3, e4, e5, e21, e22, bx⟩, h⟩
 ·refine wpE_exit ?_
  refine qe ?_
  refine qs ?_
  refine qy rfl (y_fa fa30_1 e3) ?_
  refine qy rfl (y_ld (v := (Sl.enc a1.Nodes)) ts27 rfl (Bx.cell bx 2 8 rfl (by kernel_rfl))) ?_
  refine qy rfl (y_lensl Tryz.underlying27 (lcons rfl lnil)) ?_
  refine qm ?_
  refine qn ?_
  refine wpE_block ?_
  obtain ⟨I29, m0, h, hI29⟩ := h
  refine wpE_loop (fun m ρ hp => ∃ u26 : Int × S_api_State, (ρ 36 = .int .i64 u26.1 ∧ ρ 2 = .pointer (some b1) ∧ ρ 3 = .pointer (some b3) ∧ ρ 4 = .pointer (some b5) ∧ ρ 5 = .pointer (some b9) ∧ ρ 34 = Sl.enc a1.Nodes ∧ ρ 35 = .int .i64 (a1.Nodes.len : Int) ∧ Bx hp [(b9, (S_api_State.cells u26.2)), (b5, (S_api_State.cells (S_api_State.mk (A8.mk 0 0 0 0 0 0 0 0) Sl.nil Sl.nil))), (b3, (S_api_State.cells a1)), (b1, (S_api_State.cells a0))]) ∧ I29 m u26 hp) (m := m0) ⟨(0, u12.2), ⟨rfl, e2, e3, e4, e5, rfl, rfl, bx⟩, h⟩ ?_
  rintro m ρ hp ⟨u26, ⟨e36, e2, e3, e4, e5, e34, e35, bx⟩, h⟩
  replace h := hI29 m u26 hp h
  refine qs ?_
  refine qy rfl (y_bin e36 e35 (bin_lss _ _ _)) ?_
  refine qn ?_
  refine qe ?_
  refine qc rfl h (fun h => ?_) fun h => ?_
  ·refine wpE_skip ?_
   refine qb ?_
   refine qs ?_
   obtain ⟨p300, q31, q310, q311, h⟩ := h
   generalize q319 : p300.add (_ * _) = p30 at h
   refine qy rfl (ycast_p (y_ix Tryz.underlying27 ts56 e34 e36 q31 q310 q311) q319) ?_
   obtain ⟨v32, c33, h⟩ := h
   refine qy rfl (y_lda ts56 rfl rfl c33) ?_
   refine wpL_allocX (zs := (S_api_Inode.cells (S_api_Inode.mk (S_api_Stamp.mk 0 0) 0 [] (S_api_Attr.mk (S_api_Stamp.mk 0 0) 0 0) (S_api_Size.mk (S_api_Stamp.mk 0 0) 0) Sl.nil Sl.nil))) tz56 rfl bx h rfl ?_
   intro b34 hp h bx
   refine wpL_staX (L' := [(b34, (S_api_Inode.cells v32)), (b9, (S_api_State.cells u26.2)), (b5, (S_api_State.cells (S_api_State.mk (A8.mk 0 0 0 0 0 0 0 0) Sl.nil Sl.nil))), (b3, (S_api_State.cells a1)), (b1, (S_api_State.cells a0))]) (i := 0) (off := 0) (cs' := (S_api_Inode.cells v32)) ts56 rfl rfl rfl rfl bx rfl (by kernel_rfl) h (by kernel_rfl) (by kernel_rfl) ?_
   intro hp h bx
   refine qn ?_
   refine qr ?_
   refine qy rfl (y_fa fa30_1 e5) ?_
   refine qy rfl (y_ld (v := (Sl.enc u26.2.Nodes)) ts27 rfl (Bx.cell bx 1 8 rfl (by kernel_rfl))) ?_
   refine qy rfl (y_lda (cs := (S_api_Inode.cells v32)) ts56 rfl rfl (Bx.row bx 0 0 rfl (by kernel_rfl))) ?_
   refine wpL_call (vs := [Sl.enc u26.2.Nodes, S_api_Inode.enc v32]) tc34 (lcons rfl (lcons rfl lnil)) (crannogref11_node.lift h) rfl ?_
   intro r37 hp h
   obtain ⟨kx, h⟩ := h
   replace bx := Bx.keep (bx.sub (L' := [(b9, (S_api_State.cells u26.2)), (b5, (S_api_State.cells (S_api_State.mk (A8.mk 0 0 0 0 0 0 0 0) Sl.nil Sl.nil))), (b3, (S_api_State.cells a1)), (b1, (S_api_State.cells a0))]) (.cons _ (.cons_cons _ (.cons_cons _ (.cons_cons _ (.cons_cons _ .slnil)))))) kx rfl
   refine qy rfl (y_fa fa30_1 e5) ?_
   refine wpL_stX (L' := [(b9, (S_api_State.cells (S_api_State.mk u26.2.Seen r37 u26.2.Links))), (b5, (S_api_State.cells (S_api_State.mk (A8.mk 0 0 0 0 0 0 0 0) Sl.nil Sl.nil))), (b3, (S_api_State.cells a1)), (b1, (S_api_State.cells a0))]) (i := 0) (off := 8) ts27 rfl rfl rfl bx rfl rfl h (by kernel_rfl) ?_
   intro hp h bx
   refine qn ?_
   refine qr ?_
   refine qy rfl (y_bin e36 rfl (bin_add _ _ _)) ?_
   refine qm ?_
   refine qn ?_
   obtain ⟨m, hm, h⟩ := h
   exact ⟨m, hm, (IntKind.wrap .i64 (u26.1 + (1 : Int)), (S_api_State.mk u26.2.Seen r37 u26.2.Links)), ⟨rfl, e2, e3, e4, e5, e34, e35, bx⟩, h⟩
  ·refine wpE_exit ?_
   refine qe ?_
   refine qs ?_
   refine qy rfl (y_fa fa30_2 e2) ?_
   refine qy rfl (y_ld (v := (Sl.enc a0.Links)) ts28 rfl (Bx.cell bx 3 9 rfl (by kernel_rfl))) ?_
   refine qy rfl (y_lensl Tryz.underlying28 (lcons rfl lnil)) ?_
   refine qm ?_
   refine qn ?_
   refine wpE_block ?_
   obtain ⟨I43, m0, h, hI43⟩ := h
   refine wpE_loop (fun m ρ hp => ∃ u40 : Int × S_api_State, (ρ 49 = .int .i64 u40.1 ∧ ρ 3 = .pointer (some b3) ∧ ρ 4 = .pointer (some b5) ∧ ρ 5 = .pointer (some b9) ∧ ρ 47 = Sl.enc a0.Links ∧ ρ 48 = .int .i64 (a0.Links.len : Int) ∧ Bx hp [(b9, (S_api_State.cells u40.2)), (b5, (S_api_State.cells (S_api_State.mk (A8.mk 0 0 0 0 0 0 0 0) Sl.nil Sl.nil))), (b3, (S_api_State.cells a1))]) ∧ I43 m u40 hp) (m := m0) ⟨(0, u26.2), ⟨rfl, e3, e4, e5, rfl, rfl, (bx.sub (L' := [(b9, (S_api_State.cells u26.2)), (b5, (S_api_State.cells (S_api_State.mk (A8.mk 0 0 0 0 0 0 0 0) Sl.nil Sl.nil))), (b3, (S_api_State.cells a1))]) (.cons_cons _ (.cons_cons _ (.cons_cons _ (.cons _ .slnil)))))⟩, h⟩ ?_
   rintro m ρ hp ⟨u40, ⟨e49, e3, e4, e5, e47, e48, bx⟩, h⟩
   replace h := hI43 m u40 hp h
   refine qs ?_
   refine qy rfl (y_bin e49 e48 (bin_lss _ _ _)) ?_
   refine qn ?_
   refine qe ?_
   refine qc rfl h (fun h => ?_) fun h => ?_
   ·refine wpE_skip ?_
    refine qb ?_
    refine qs ?_
    obtain ⟨p440, q45, q450, q451, h⟩ := h
    generalize q459 : p440.add (_ * _) = p44 at h
    refine qy rfl (ycast_p (y_ix Tryz.underlying28 ts58 e47 e49 q45 q450 q451) q459) ?_
    obtain ⟨v46, c47, h⟩ := h
    refine qy rfl (y_lda ts58 rfl rfl c47) ?_
    refine wpL_allocX (zs := (S_api_Link.cells (S_api_Link.mk (S_api_Stamp.mk 0 0) (S_api_Stamp.mk 0 0) (S_api_Stamp.mk 0 0) (S_api_Stamp.mk 0 0) [] (A8.mk 0 0 0 0 0 0 0 0) (A8.mk 0 0 0 0 0 0 0 0)))) tz58 rfl bx h rfl ?_
    intro b48 hp h bx
    refine wpL_staX (L' := [(b48, (S_api_Link.cells v46)), (b9, (S_api_State.cells u40.2)), (b5, (S_api_State.cells (S_api_State.mk (A8.mk 0 0 0 0 0 0 0 0) Sl.nil Sl.nil))), (b3, (S_api_State.cells a1))]) (i := 0) (off := 0) (cs' := (S_api_Link.cells v46)) ts58 rfl rfl rfl rfl bx rfl (by kernel_rfl) h (by kernel_rfl) (by kernel_rfl) ?_
    intro hp h bx
    refine qn ?_
    refine qr ?_
    refine qy rfl (y_fa fa30_2 e5) ?_
    refine qy rfl (y_ld (v := (Sl.enc u40.2.Links)) ts28 rfl (Bx.cell bx 1 9 rfl (by kernel_rfl))) ?_
    refine qy rfl (y_lda (cs := (S_api_Link.cells v46)) ts58 rfl rfl (Bx.row bx 0 0 rfl (by kernel_rfl))) ?_
    refine wpL_call (vs := [Sl.enc u40.2.Links, S_api_Link.enc v46]) tc35 (lcons rfl (lcons rfl lnil)) (crannogref11_link.lift h) rfl ?_
    intro r51 hp h
    obtain ⟨kx, h⟩ := h
    replace bx := Bx.keep (bx.sub (L' := [(b9, (S_api_State.cells u40.2)), (b5, (S_api_State.cells (S_api_State.mk (A8.mk 0 0 0 0 0 0 0 0) Sl.nil Sl.nil))), (b3, (S_api_State.cells a1))]) (.cons _ (.cons_cons _ (.cons_cons _ (.cons_cons _ .slnil))))) kx rfl
    refine qy rfl (y_fa fa30_2 e5) ?_
    refine wpL_stX (L' := [(b9, (S_api_State.cells (S_api_State.mk u40.2.Seen u40.2.Nodes r51))), (b5, (S_api_State.cells (S_api_State.mk (A8.mk 0 0 0 0 0 0 0 0) Sl.nil Sl.nil))), (b3, (S_api_State.cells a1))]) (i := 0) (off := 9) ts28 rfl rfl rfl bx rfl rfl h (by kernel_rfl) ?_
    intro hp h bx
    refine qn ?_
    refine qr ?_
    refine qy rfl (y_bin e49 rfl (bin_add _ _ _)) ?_
    refine qm ?_
    refine qn ?_
    obtain ⟨m, hm, h⟩ := h
    exact ⟨m, hm, (IntKind.wrap .i64 (u40.1 + (1 : Int)), (S_api_State.mk u40.2.Seen u40.2.Nodes r51)), ⟨rfl, e3, e4, e5, e47, e48, bx⟩, h⟩
   ·refine wpE_exit ?_
    refine qe ?_
    refine qs ?_
    refine qy rfl (y_fa fa30_2 e3) ?_
    refine qy rfl (y_ld (v := (Sl.enc a1.Links)) ts28 rfl (Bx.cell bx 2 9 rfl (by kernel_rfl))) ?_
    refine qy rfl (y_lensl Tryz.underlying28 (lcons rfl lnil)) ?_
    refine qm ?_
    refine qn ?_
    refine wpE_block ?_
    obtain ⟨I57, m0, h, hI57⟩ := h
    refine wpE_loop (fun m ρ hp => ∃ u54 : Int × S_api_State, (ρ 62 = .int .i64 u54.1 ∧ ρ 4 = .pointer (some b5) ∧ ρ 5 = .pointer (some b9) ∧ ρ 60 = Sl.enc a1.Links ∧ ρ 61 = .int .i64 (a1.Links.len : Int) ∧ Bx hp [(b9, (S_api_State.cells u54.2)), (b5, (S_api_State.cells (S_api_State.mk (A8.mk 0 0 0 0 0 0 0 0) Sl.nil Sl.nil)))]) ∧ I57 m u54 hp) (m := m0) ⟨(0, u40.2), ⟨rfl, e4, e5, rfl, rfl, (bx.sub (L' := [(b9, (S_api_State.cells u40.2)), (b5, (S_api_State.cells (S_api_State.mk (A8.mk 0 0 0 0 0 0 0 0) Sl.nil Sl.nil)))]) (.cons_cons _ (.cons_cons _ (.cons _ .slnil))))⟩, h⟩ ?_
    rintro m ρ hp ⟨u54, ⟨e62, e4, e5, e60, e61, bx⟩, h⟩
    replace h := hI57 m u54 hp h
    refine qs ?_
    refine qy rfl (y_bin e62 e61 (bin_lss _ _ _)) ?_
    refine qn ?_
    refine qe ?_
    refine qc rfl h (fun h => ?_) fun h => ?_
    ·refine wpE_skip ?_
     refine qb ?_
     refine qs ?_
     obtain ⟨p580, q59, q590, q591, h⟩ := h
     generalize q599 : p580.add (_ * _) = p58 at h
     refine qy rfl (ycast_p (y_ix Tryz.underlying28 ts58 e60 e62 q59 q590 q591) q599) ?_
     obtain ⟨v60, c61, h⟩ := h
     refine qy rfl (y_lda ts58 rfl rfl c61) ?_
     refine wpL_allocX (zs := (S_api_Link.cells (S_api_Link.mk (S_api_Stamp.mk 0 0) (S_api_Stamp.mk 0 0) (S_api_Stamp.mk 0 0) (S_api_Stamp.mk 0 0) [] (A8.mk 0 0 0 0 0 0 0 0) (A8.mk 0 0 0 0 0 0 0 0)))) tz58 rfl bx h rfl ?_
     intro b62 hp h bx
     refine wpL_staX (L' := [(b62, (S_api_Link.cells v60)), (b9, (S_api_State.cells u54.2)), (b5, (S_api_State.cells (S_api_State.mk (A8.mk 0 0 0 0 0 0 0 0) Sl.nil Sl.nil)))]) (i := 0) (off := 0) (cs' := (S_api_Link.cells v60)) ts58 rfl rfl rfl rfl bx rfl (by kernel_rfl) h (by kernel_rfl) (by kernel_rfl) ?_
     intro hp h bx
     refine qn ?_
     refine qr ?_
     refine qy rfl (y_fa fa30_2 e5) ?_
     refine qy rfl (y_ld (v := (Sl.enc u54.2.Links)) ts28 rfl (Bx.cell bx 1 9 rfl (by kernel_rfl))) ?_
     refine qy rfl (y_lda (cs := (S_api_Link.cells v60)) ts58 rfl rfl (Bx.row bx 0 0 rfl (by kernel_rfl))) ?_
     refine wpL_call (vs := [Sl.enc u54.2.Links, S_api_Link.enc v60]) tc35 (lcons rfl (lcons rfl lnil)) (crannogref11_link.lift h) rfl ?_
     intro r65 hp h
     obtain ⟨kx, h⟩ := h
     replace bx := Bx.keep (bx.sub (L' := [(b9, (S_api_State.cells u54.2)), (b5, (S_api_State.cells (S_api_State.mk (A8.mk 0 0 0 0 0 0 0 0) Sl.nil Sl.nil)))]) (.cons _ (.cons_cons _ (.cons_cons _ .slnil)))) kx rfl
     refine qy rfl (y_fa fa30_2 e5) ?_
     refine wpL_stX (L' := [(b9, (S_api_State.cells (S_api_State.mk u54.2.Seen u54.2.Nodes r65))), (b5, (S_api_State.cells (S_api_State.mk (A8.mk 0 0 0 0 0 0 0 0) Sl.nil Sl.nil)))]) (i := 0) (off := 9) ts28 rfl rfl rfl bx rfl rfl h (by kernel_rfl) ?_
     intro hp h bx
     refine qn ?_
     refine qr ?_
     refine qy rfl (y_bin e62 rfl (bin_add _ _ _)) ?_
     refine qm ?_
     refine qn ?_
     obtain ⟨m, hm, h⟩ := h
     exact ⟨m, hm, (IntKind.wrap .i64 (u54.1 + (1 : Int)), (S_api_State.mk u54.2.Seen u54.2.Nodes r65)), ⟨rfl, e4, e5, e60, e61, bx⟩, h⟩
    ·refine wpE_exit ?_
     refine qs ?_
     refine qy rfl (y_lda (cs := (S_api_State.cells u54.2)) ts30 rfl e5 (Bx.row bx 0 0 rfl (by kernel_rfl))) ?_
     refine wpL_staX (L' := [(b9, (S_api_State.cells u54.2)), (b5, (S_api_State.cells u54.2))]) (i := 1) (off := 0) (cs' := (S_api_State.cells u54.2)) ts30 e4 rfl rfl rfl bx rfl (by kernel_rfl) h (by kernel_rfl) (by kernel_rfl) ?_
     intro hp h bx
     refine qn ?_
     refine wpE_ret ?_
     exact body_r u54.2 rfl (rs_cella ts30 rfl e4 (Bx.row bx 1 0 rfl (by kernel_rfl)) rs_nil) rfl h

set_option maxHeartbeats 4000000 in
theorem crannogref10_Empty.lift  {Q : S_api_State → Hp → Prop} {hp : Hp} (h : crannogref10_Empty Q hp) : CallsH Tryz.prog 20 #[] hp (Rt S_api_State.enc Q) := by
 unfold crannogref10_Empty at h
 refine calls_of 8 Tryz.func20 rfl rfl ?_
 refine qs ?_
 refine wpL_allocX (zs := (S_api_State.cells (S_api_State.mk (A8.mk 0 0 0 0 0 0 0 0) Sl.nil Sl.nil))) tz30 rfl Bx.nil h rfl ?_
 intro b1 hp h bx
 refine qn ?_
 refine qs ?_
 refine qy rfl (y_bl (cs := S_api_Inode.cells (S_api_Inode.mk (S_api_Stamp.mk 0 0) 2 [] (S_api_Attr.mk (S_api_Stamp.mk 0 0) 0 0) (S_api_Size.mk (S_api_Stamp.mk 0 0) 0) Sl.nil Sl.nil)) pl56 (pcons rfl rfl) rfl) ?_
 refine wpL_allocX (zs := (S_api_Inode.cells (S_api_Inode.mk (S_api_Stamp.mk 0 0) 0 [] (S_api_Attr.mk (S_api_Stamp.mk 0 0) 0 0) (S_api_Size.mk (S_api_Stamp.mk 0 0) 0) Sl.nil Sl.nil))) tz56 rfl bx h rfl ?_
 intro b3 hp h bx
 refine wpL_staX (L' := [(b3, (S_api_Inode.cells (S_api_Inode.mk (S_api_Stamp.mk 0 0) 2 [] (S_api_Attr.mk (S_api_Stamp.mk 0 0) 0 0) (S_api_Size.mk (S_api_Stamp.mk 0 0) 0) Sl.nil Sl.nil))), (b1, (S_api_State.cells (S_api_State.mk (A8.mk 0 0 0 0 0 0 0 0) Sl.nil Sl.nil)))]) (i := 0) (off := 0) (cs' := (S_api_Inode.cells (S_api_Inode.mk (S_api_Stamp.mk 0 0) 2 [] (S_api_Attr.mk (S_api_Stamp.mk 0 0) 0 0) (S_api_Size.mk (S_api_Stamp.mk 0 0) 0) Sl.nil Sl.nil))) ts56 rfl rfl rfl rfl bx rfl (by kernel_rfl) h (by kernel_rfl) (by kernel_rfl) ?_
 intro hp h bx
 refine qn ?_
 refine qs ?_
 refine qy rfl (y_bl (cs := S_api_Attr.cells (S_api_Attr.mk (S_api_Stamp.mk 0 0) 493 9223372036854775808)) pl50 (pcons rfl (pcons rfl rfl)) rfl) ?_
 refine qy rfl (y_fa fa56_3 rfl) ?_
 refine wpL_staX (L' := [(b3, (S_api_Inode.cells (S_api_Inode.mk ((S_api_Inode.mk (S_api_Stamp.mk 0 0) 2 [] (S_api_Attr.mk (S_api_Stamp.mk 0 0) 0 0) (S_api_Size.mk (S_api_Stamp.mk 0 0) 0) Sl.nil Sl.nil).Id) ((S_api_Inode.mk (S_api_Stamp.mk 0 0) 2 [] (S_api_Attr.mk (S_api_Stamp.mk 0 0) 0 0) (S_api_Size.mk (S_api_Stamp.mk 0 0) 0) Sl.nil Sl.nil).Kind) ((S_api_Inode.mk (S_api_Stamp.mk 0 0) 2 [] (S_api_Attr.mk (S_api_Stamp.mk 0 0) 0 0) (S_api_Size.mk (S_api_Stamp.mk 0 0) 0) Sl.nil Sl.nil).Text) (S_api_Attr.mk (S_api_Stamp.mk 0 0) 493 9223372036854775808) ((S_api_Inode.mk (S_api_Stamp.mk 0 0) 2 [] (S_api_Attr.mk (S_api_Stamp.mk 0 0) 0 0) (S_api_Size.mk (S_api_Stamp.mk 0 0) 0) Sl.nil Sl.nil).Size) ((S_api_Inode.mk (S_api_Stamp.mk 0 0) 2 [] (S_api_Attr.mk (S_api_Stamp.mk 0 0) 0 0) (S_api_Size.mk (S_api_Stamp.mk 0 0) 0) Sl.nil Sl.nil).Pieces) ((S_api_Inode.mk (S_api_Stamp.mk 0 0) 2 [] (S_api_Attr.mk (S_api_Stamp.mk 0 0) 0 0) (S_api_Size.mk (S_api_Stamp.mk 0 0) 0) Sl.nil Sl.nil).Xattrs)))), (b1, (S_api_State.cells (S_api_State.mk (A8.mk 0 0 0 0 0 0 0 0) Sl.nil Sl.nil)))]) (i := 0) (off := 4) (cs' := (S_api_Inode.cells (S_api_Inode.mk ((S_api_Inode.mk (S_api_Stamp.mk 0 0) 2 [] (S_api_Attr.mk (S_api_Stamp.mk 0 0) 0 0) (S_api_Size.mk (S_api_Stamp.mk 0 0) 0) Sl.nil Sl.nil).Id) ((S_api_Inode.mk (S_api_Stamp.mk 0 0) 2 [] (S_api_Attr.mk (S_api_Stamp.mk 0 0) 0 0) (S_api_Size.mk (S_api_Stamp.mk 0 0) 0) Sl.nil Sl.nil).Kind) ((S_api_Inode.mk (S_api_Stamp.mk 0 0) 2 [] (S_api_Attr.mk (S_api_Stamp.mk 0 0) 0 0) (S_api_Size.mk (S_api_Stamp.mk 0 0) 0) Sl.nil Sl.nil).Text) (S_api_Attr.mk (S_api_Stamp.mk 0 0) 493 9223372036854775808) ((S_api_Inode.mk (S_api_Stamp.mk 0 0) 2 [] (S_api_Attr.mk (S_api_Stamp.mk 0 0) 0 0) (S_api_Size.mk (S_api_Stamp.mk 0 0) 0) Sl.nil Sl.nil).Size) ((S_api_Inode.mk (S_api_Stamp.mk 0 0) 2 [] (S_api_Attr.mk (S_api_Stamp.mk 0 0) 0 0) (S_api_Size.mk (S_api_Stamp.mk 0 0) 0) Sl.nil Sl.nil).Pieces) ((S_api_Inode.mk (S_api_Stamp.mk 0 0) 2 [] (S_api_Attr.mk (S_api_Stamp.mk 0 0) 0 0) (S_api_Size.mk (S_api_Stamp.mk 0 0) 0) Sl.nil Sl.nil).Xattrs)))) ts50 rfl rfl rfl rfl bx rfl (by kernel_rfl) h (by kernel_rfl) (by kernel_rfl) ?_
 intro hp h bx
 refine qn ?_
 refine qs ?_
 refine qy rfl (y_lda (cs := (S_api_Inode.cells (S_api_Inode.mk ((S_api_Inode.mk (S_api_Stamp.mk 0 0) 2 [] (S_api_Attr.mk (S_api_Stamp.mk 0 0) 0 0) (S_api_Size.mk (S_api_Stamp.mk 0 0) 0) Sl.nil Sl.nil).Id) ((S_api_Inode.mk (S_api_Stamp.mk 0 0) 2 [] (S_api_Attr.mk (S_api_Stamp.mk 0 0) 0 0) (S_api_Size.mk (S_api_Stamp.mk 0 0) 0) Sl.nil Sl.nil).Kind) ((S_api_Inode.mk (S_api_Stamp.mk 0 0) 2 [] (S_api_Attr.mk (S_api_Stamp.mk 0 0) 0 0) (S_api_Size.mk (S_api_Stamp.mk 0 0) 0) Sl.nil Sl.nil).Text) (S_api_Attr.mk (S_api_Stamp.mk 0 0) 493 9223372036854775808) ((S_api_Inode.mk (S_api_Stamp.mk 0 0) 2 [] (S_api_Attr.mk (S_api_Stamp.mk 0 0) 0 0) (S_api_Size.mk (S_api_Stamp.mk 0 0) 0) Sl.nil Sl.nil).Size) ((S_api_Inode.mk (S_api_Stamp.mk 0 0) 2 [] (S_api_Attr.mk (S_api_Stamp.mk 0 0) 0 0) (S_api_Size.mk (S_api_Stamp.mk 0 0) 0) Sl.nil Sl.nil).Pieces) ((S_api_Inode.mk (S_api_Stamp.mk 0 0) 2 [] (S_api_Attr.mk (S_api_Stamp.mk 0 0) 0 0) (S_api_Size.mk (S_api_Stamp.mk 0 0) 0) Sl.nil Sl.nil).Xattrs)))) ts56 rfl rfl (Bx.row bx 0 0 rfl (by kernel_rfl))) ?_
 refine wpL_bsf Tryz.underlying27 ts56 tz56 rfl rfl (pcons rfl rfl) (full_cons rfl rfl full_nil) rfl h rfl ?_
 intro b7 hp h
 obtain ⟨kx, h⟩ := h
 replace bx := Bx.keep (bx.sub (L' := [(b1, (S_api_State.cells (S_api_State.mk (A8.mk 0 0 0 0 0 0 0 0) Sl.nil Sl.nil)))]) (.cons _ (.cons_cons _ .slnil))) kx rfl
 refine qy rfl (y_bl (cs := S_api_State.cells (S_api_State.mk (A8.mk 0 0 0 0 0 0 0 0) (Sl.mk (some b7) 1 1) Sl.nil)) pl30 (pcons rfl rfl) rfl) ?_
 refine wpL_staX (L' := [(b1, (S_api_State.cells (S_api_State.mk (A8.mk 0 0 0 0 0 0 0 0) (Sl.mk (some b7) 1 1) Sl.nil)))]) (i := 0) (off := 0) (cs' := (S_api_State.cells (S_api_State.mk (A8.mk 0 0 0 0 0 0 0 0) (Sl.mk (some b7) 1 1) Sl.nil))) ts30 rfl rfl rfl rfl bx rfl (by kernel_rfl) h (by kernel_rfl) (by kernel_rfl) ?_
 intro hp h bx
 refine qn ?_
 refine wpE_ret ?_
 exact body_r (S_api_State.mk (A8.mk 0 0 0 0 0 0 0 0) (Sl.mk (some b7) 1 1) Sl.nil) rfl (rs_cella ts30 rfl rfl (Bx.row bx 0 0 rfl (by kernel_rfl)) rs_nil) rfl h

set_option maxHeartbeats 4000000 in
theorem crannogref22_Fold.lift {a0 : Sl} {Q : S_api_State → Hp → Prop} {hp : Hp} (h : crannogref22_Fold a0 Q hp) : CallsH Tryz.prog 9 #[Sl.enc a0] hp (Rt S_api_State.enc Q) := by
 unfold crannogref22_Fold at h
 refine calls_of 19 Tryz.func9 rfl rfl ?_
 refine qs ?_
 refine wpL_allocX (zs := (S_api_State.cells (S_api_State.mk (A8.mk 0 0 0 0 0 0 0 0) Sl.nil Sl.nil))) tz30 rfl Bx.nil h rfl ?_
 intro b1 hp h bx
 refine qn ?_
 refine qs ?_
 refine wpL_call (vs := []) tc20 lnil (crannogref10_Empty.lift h) rfl ?_
 intro r3 hp h
 obtain ⟨kx, h⟩ := h
 replace bx := Bx.keep bx kx rfl
 refine wpL_allocX (zs := (S_api_State.cells (S_api_State.mk (A8.mk 0 0 0 0 0 0 0 0) Sl.nil Sl.nil))) tz30 rfl bx h rfl ?_
 intro b5 hp h bx
 refine wpL_staX (L' := [(b5, (S_api_State.cells r3)), (b1, (S_api_State.cells (S_api_State.mk (A8.mk 0 0 0 0 0 0 0 0) Sl.nil Sl.nil)))]) (i := 0) (off := 0) (cs' := (S_api_State.cells r3)) ts30 rfl rfl rfl rfl bx rfl (by kernel_rfl) h (by kernel_rfl) (by kernel_rfl) ?_
 intro hp h bx
 refine qn ?_
 refine qe ?_
 refine qs ?_
 refine qm ?_
 refine qy rfl (y_lensl Tryz.underlying22 (lcons rfl lnil)) ?_
 refine qm ?_
 refine qn ?_
 refine wpE_block ?_
 obtain ⟨I11, m0, h, hI11⟩ := h
 refine wpE_loop (fun m ρ hp => ∃ u8 : Int × S_api_State, (ρ 9 = .int .i64 u8.1 ∧ ρ 2 = .pointer (some b1) ∧ ρ 3 = .pointer (some b5) ∧ ρ 7 = Sl.enc a0 ∧ ρ 8 = .int .i64 (a0.len : Int) ∧ Bx hp [(b5, (S_api_State.cells u8.2)), (b1, (S_api_State.cells (S_api_State.mk (A8.mk 0 0 0 0 0 0 0 0) Sl.nil Sl.nil)))]) ∧ I11 m u8 hp) (m := m0) ⟨(0, r3), ⟨rfl, rfl, rfl, rfl, rfl, bx⟩, h⟩ ?_
 rintro m ρ hp ⟨u8, ⟨e9, e2, e3, e7, e8, bx⟩, h⟩
 replace h := hI11 m u8 hp h
 refine qs ?_
 refine qy rfl (y_bin e9 e8 (bin_lss _ _ _)) ?_
 refine qn ?_
 refine qe ?_
 refine qc rfl h (fun h => ?_) fun h => ?_
 ·refine wpE_skip ?_
  refine qb ?_
  refine qs ?_
  obtain ⟨p120, q13, q130, q131, h⟩ := h
  generalize q139 : p120.add (_ * _) = p12 at h
  refine qy rfl (ycast_p (y_ix Tryz.underlying22 ts32 e7 e9 q13 q130 q131) q139) ?_
  obtain ⟨v14, c15, h⟩ := h
  refine qy rfl (y_lda ts32 rfl rfl c15) ?_
  refine wpL_allocX (zs := (S_api_Event.cells (S_api_Event.mk (S_api_Stamp.mk 0 0) 0 (A8.mk 0 0 0 0 0 0 0 0) (S_api_State.mk (A8.mk 0 0 0 0 0 0 0 0) Sl.nil Sl.nil)))) tz32 rfl bx h rfl ?_
  intro b16 hp h bx
  refine wpL_staX (L' := [(b16, (S_api_Event.cells v14)), (b5, (S_api_State.cells u8.2)), (b1, (S_api_State.cells (S_api_State.mk (A8.mk 0 0 0 0 0 0 0 0) Sl.nil Sl.nil)))]) (i := 0) (off := 0) (cs' := (S_api_Event.cells v14)) ts32 rfl rfl rfl rfl bx rfl (by kernel_rfl) h (by kernel_rfl) (by kernel_rfl) ?_
  intro hp h bx
  refine qn ?_
  refine qr ?_
  refine qy rfl (y_lda (cs := (S_api_State.cells u8.2)) ts30 rfl e3 (Bx.row bx 1 0 rfl (by kernel_rfl))) ?_
  refine qy rfl (y_fa fa32_3 rfl) ?_
  refine qy rfl (y_lda (cs := (S_api_State.cells v14.Delta)) ts30 rfl rfl (Bx.row bx 0 11 rfl (by kernel_rfl))) ?_
  refine wpL_call (vs := [S_api_State.enc u8.2, S_api_State.enc v14.Delta]) tc13 (lcons rfl (lcons rfl lnil)) (crannogref11_States.lift h) rfl ?_
  intro r19 hp h
  obtain ⟨kx, h⟩ := h
  replace bx := Bx.keep (bx.sub (L' := [(b5, (S_api_State.cells u8.2)), (b1, (S_api_State.cells (S_api_State.mk (A8.mk 0 0 0 0 0 0 0 0) Sl.nil Sl.nil)))]) (.cons _ (.cons_cons _ (.cons_cons _ .slnil)))) kx rfl
  refine wpL_staX (L' := [(b5, (S_api_State.cells r19)), (b1, (S_api_State.cells (S_api_State.mk (A8.mk 0 0 0 0 0 0 0 0) Sl.nil Sl.nil)))]) (i := 0) (off := 0) (cs' := (S_api_State.cells r19)) ts30 e3 rfl rfl rfl bx rfl (by kernel_rfl) h (by kernel_rfl) (by kernel_rfl) ?_
  intro hp h bx
  refine qn ?_
  refine qr ?_
  refine qy rfl (y_bin e9 rfl (bin_add _ _ _)) ?_
  refine qm ?_
  refine qn ?_
  obtain ⟨m, hm, h⟩ := h
  exact ⟨m, hm, (IntKind.wrap .i64 (u8.1 + (1 : Int)), r19), ⟨rfl, e2, e3, e7, e8, bx⟩, h⟩
 ·refine wpE_exit ?_
  refine qs ?_
  refine qy rfl (y_lda (cs := (S_api_State.cells u8.2)) ts30 rfl e3 (Bx.row bx 0 0 rfl (by kernel_rfl))) ?_
  refine wpL_staX (L' := [(b5, (S_api_State.cells u8.2)), (b1, (S_api_State.cells u8.2))]) (i := 1) (off := 0) (cs' := (S_api_State.cells u8.2)) ts30 e2 rfl rfl rfl bx rfl (by kernel_rfl) h (by kernel_rfl) (by kernel_rfl) ?_
  intro hp h bx
  refine qn ?_
  refine wpE_ret ?_
  exact body_r u8.2 rfl (rs_cella ts30 rfl e2 (Bx.row bx 1 0 rfl (by kernel_rfl)) rs_nil) rfl h

set_option maxHeartbeats 4000000 in
theorem crannogref09_Is.lift {a0 : S_api_Stamp} {Q : Bool → Hp → Prop} {hp : Hp} (h : crannogref09_Is a0 Q hp) : CallsH Tryz.prog 45 #[S_api_Stamp.enc a0] hp (Rt Value.bool Q) := by
 unfold crannogref09_Is at h
 refine calls_of 21 Tryz.func45 rfl rfl ?_
 refine qs ?_
 refine wpL_boxX (vs := (S_api_Stamp.cells a0)) rfl rfl Bx.nil h rfl ?_
 intro b1 hp h bx
 refine qa ?_
 refine qn ?_
 obtain ⟨K4, jK4, h⟩ := h
 refine wpE_seqJH K4 (fun (x3 : Bool) (ρ : Env) (hp : Hp) => ρ 2 = .bool x3 ∧ True) (fun ρ x3 hp f h => ?_) ?_
 ·obtain ⟨e2, _⟩ := f
  replace h := jK4 x3 hp h
  refine wpE_ret ?_
  exact body_r x3 rfl (rs_tmp e2 rs_nil) rfl h
 ·refine qr ?_
  refine qy rfl (y_fa fa24_0 rfl) ?_
  refine qy rfl (y_ld (v := ((Value.int .i64) a0.Time)) ts3 rfl (Bx.cell bx 0 0 rfl (by kernel_rfl))) ?_
  refine qy rfl (y_bin rfl rfl (bin_geq _ _ _)) ?_
  refine qm ?_
  refine wpL_split h (fun g6 h => ?_) (fun g6 h => ?_)
  ·refine qg rfl g6 ?_
   refine qy rfl (y_fa fa24_0 rfl) ?_
   refine qg rfl g6 ?_
   refine qy rfl (y_ld (v := ((Value.int .i64) a0.Time)) ts3 rfl (Bx.cell bx 0 0 rfl (by kernel_rfl))) ?_
   refine qg rfl g6 ?_
   refine qy rfl (y_bin rfl rfl (bin_leq _ _ _)) ?_
   refine qy rfl (y_pickt (vbool rfl g6)) ?_
   refine qm ?_
   refine wpL_split h (fun g7 h => ?_) (fun g7 h => ?_)
   ·refine qg rfl g7 ?_
    refine qy rfl (y_fa fa24_1 rfl) ?_
    refine qg rfl g7 ?_
    refine qy rfl (y_ld (v := ((Value.int .i64) a0.Who)) ts3 rfl (Bx.cell bx 0 1 rfl (by kernel_rfl))) ?_
    refine qg rfl g7 ?_
    refine qy rfl (y_bin rfl rfl (bin_geq _ _ _)) ?_
    refine qy rfl (y_pickt (vbool rfl g7)) ?_
    refine qm ?_
    refine wpL_split h (fun g8 h => ?_) (fun g8 h => ?_)
    ·refine qg rfl g8 ?_
     refine qy rfl (y_fa fa24_1 rfl) ?_
     refine qg rfl g8 ?_
     refine qy rfl (y_ld (v := ((Value.int .i64) a0.Who)) ts3 rfl (Bx.cell bx 0 1 rfl (by kernel_rfl))) ?_
     refine qg rfl g8 ?_
     refine qy rfl (y_bin rfl rfl (bin_lss _ _ _)) ?_
     refine qy rfl (y_pickt (vbool rfl g8)) ?_
     refine qa ?_
     refine qn ?_
     exact ⟨(decide (a0.Who < (8 : Int))), ⟨rfl, trivial⟩, h⟩
    ·refine qp rfl g8 ?_
     iterate 2 refine qp rfl g8 ?_
     refine qy rfl (y_pickf (vbool rfl g8)) ?_
     refine qa ?_
     refine qn ?_
     exact ⟨false, ⟨rfl, trivial⟩, h⟩
   ·refine qp rfl g7 ?_
    iterate 2 refine qp rfl g7 ?_
    refine qy rfl (y_pickf (vbool rfl g7)) ?_
    refine qm ?_
    iterate 3 refine qP rfl rfl ?_
    refine qy rfl (y_pickf rfl) ?_
    refine qa ?_
    refine qn ?_
    exact ⟨false, ⟨rfl, trivial⟩, h⟩
  ·refine qp rfl g6 ?_
   iterate 2 refine qp rfl g6 ?_
   refine qy rfl (y_pickf (vbool rfl g6)) ?_
   refine qm ?_
   iterate 3 refine qP rfl rfl ?_
   refine qy rfl (y_pickf rfl) ?_
   refine qm ?_
   iterate 3 refine qP rfl rfl ?_
   refine qy rfl (y_pickf rfl) ?_
   refine qa ?_
   refine qn ?_
   exact ⟨false, ⟨rfl, trivial⟩, h⟩

set_option maxHeartbeats 4000000 in
theorem crannogref09_Has.lift {a0 : A8 Int} {a1 : S_api_Stamp} {Q : Bool → Hp → Prop} {hp : Hp} (h : crannogref09_Has a0 a1 Q hp) : CallsH Tryz.prog 22 #[A8.enc .i64 a0, S_api_Stamp.enc a1] hp (Rt Value.bool Q) := by
 unfold crannogref09_Has at h
 refine calls_of 16 Tryz.func22 rfl rfl ?_
 refine qs ?_
 refine wpL_boxX (vs := ((A8.cells .i64) a0)) rfl rfl Bx.nil h rfl ?_
 intro b1 hp h bx
 refine wpL_boxX (vs := (S_api_Stamp.cells a1)) rfl rfl bx h rfl ?_
 intro b3 hp h bx
 refine qa ?_
 refine qn ?_
 obtain ⟨K6, jK6, h⟩ := h
 refine wpE_seqJH K6 (fun (x5 : Bool) (ρ : Env) (hp : Hp) => ρ 4 = .bool x5 ∧ True) (fun ρ x5 hp f h => ?_) ?_
 ·obtain ⟨e4, _⟩ := f
  replace h := jK6 x5 hp h
  refine wpE_ret ?_
  exact body_r x5 rfl (rs_tmp e4 rs_nil) rfl h
 ·refine wpE_draw mixed rfl ?_
  refine qT 0 1 (fun h => Row h b3 (S_api_Stamp.cells a1)) rfl rfl (Bx.row bx 0 0 rfl (by kernel_rfl)) (fun _ c => y_lda (cs := (S_api_Stamp.cells a1)) ts24 rfl rfl c) ?_
  refine wpA_loud (rs := [1]) (by kernel_rfl) rfl ?_
  refine mcons (step_of rfl ?_) mnil
  refine wpL_call (vs := [S_api_Stamp.enc a1]) tc45 (lcons rfl lnil) (crannogref09_Is.lift h) rfl ?_
  intro r8 hp h
  obtain ⟨kx, h⟩ := h
  replace bx := Bx.keep bx kx rfl
  refine qn ?_
  refine ⟨hs_dead rfl hs_nil, ?_⟩
  refine qU 2 rfl rfl (fun _ => y_mv) ?_
  refine wpA_split h (fun g10 h => ?_) (fun g10 h => ?_)
  ·refine qV 3 rfl rfl g10 (fun _ => y_fa fa24_0 rfl) ?_
   refine wpA_take (i := 4) (kk := 12) (fun h => Hp.cell? h (b3.add 0) = some ((Value.int .i64) a1.Time)) rfl rfl rfl (by kernel_rfl) (by kernel_rfl) (wt_bool rfl rfl rfl (vbool rfl g10) rfl) (fun _ _ _ _ h => h) (Bx.cell bx 0 0 rfl (by kernel_rfl)) (fun _ c => y_ld (v := ((Value.int .i64) a1.Time)) ts3 rfl c) ?_
   refine qV 5 rfl rfl g10 (fun _ => y_fa fa24_1 rfl) ?_
   refine wpA_take (i := 6) (kk := 12) (fun h => Hp.cell? h (b3.add 1) = some ((Value.int .i64) a1.Who)) rfl rfl rfl (by kernel_rfl) (by kernel_rfl) (wt_bool rfl rfl rfl (vbool rfl g10) rfl) (fun _ _ _ _ h => h) (Bx.cell bx 0 1 rfl (by kernel_rfl)) (fun _ c => y_ld (v := ((Value.int .i64) a1.Who)) ts3 rfl c) ?_
   obtain ⟨q11, h⟩ := h
   refine qV 7 rfl rfl g10 (fun _ => y_ixaX (len := 8) Tryz.underlying26 ts3 rfl rfl q11) ?_
   refine wpA_take (i := 8) (kk := 12) (fun h => Hp.cell? h (b1.add (Int.toNat a1.Who * 1)) = some ((Value.int .i64) (A8.at_ a0 a1.Who))) rfl rfl rfl (by kernel_rfl) (by kernel_rfl) (wt_bool rfl rfl rfl (vbool rfl g10) rfl) (fun _ _ _ _ h => h) (Bx.ari bx 1 0 rfl (by kernel_rfl) q11) (fun _ c => y_ld (v := ((Value.int .i64) (A8.at_ a0 a1.Who))) ts3 rfl c) ?_
   refine qV 9 rfl rfl g10 (fun _ => y_bin rfl rfl (bin_leq _ _ _)) ?_
   refine qU 10 rfl rfl (fun _ => y_pickt (vbool rfl g10)) ?_
   refine qU 11 rfl rfl (fun _ => y_as) ?_
   refine qt (by kernel_rfl) ?_
   exact ⟨(decide (a1.Time ≤ (A8.at_ a0 a1.Who))), ⟨rfl, trivial⟩, h⟩
  ·refine qW 3 rfl rfl g10 ?_
   refine qW 4 rfl rfl g10 ?_
   refine qW 5 rfl rfl g10 ?_
   refine qW 6 rfl rfl g10 ?_
   refine qW 7 rfl rfl g10 ?_
   refine qW 8 rfl rfl g10 ?_
   refine qW 9 rfl rfl g10 ?_
   refine qU 10 rfl rfl (fun _ => y_pickf (vbool rfl g10)) ?_
   refine qU 11 rfl rfl (fun _ => y_as) ?_
   refine qt (by kernel_rfl) ?_
   exact ⟨false, ⟨rfl, trivial⟩, h⟩

set_option maxHeartbeats 4000000 in
theorem crannogref22_Before.lift {a0 : S_api_Event} {a1 : S_api_Event} {Q : Bool → Hp → Prop} {hp : Hp} (h : crannogref22_Before a0 a1 Q hp) : CallsH Tryz.prog 11 #[S_api_Event.enc a0, S_api_Event.enc a1] hp (Rt Value.bool Q) := by
 unfold crannogref22_Before at h
 refine calls_of 10 Tryz.func11 rfl rfl ?_
 refine qs ?_
 refine wpL_boxX (vs := (S_api_Event.cells a0)) rfl rfl Bx.nil h rfl ?_
 intro b1 hp h bx
 refine wpL_boxX (vs := (S_api_Event.cells a1)) rfl rfl bx h rfl ?_
 intro b3 hp h bx
 refine qa ?_
 refine qn ?_
 refine qs ?_
 refine qy rfl (y_fa fa32_2 rfl) ?_
 refine qy rfl (y_lda (cs := ((A8.cells .i64) a1.Knew)) ts26 rfl rfl (Bx.row bx 0 3 rfl (by kernel_rfl))) ?_
 refine qy rfl (y_fa fa32_0 rfl) ?_
 refine qy rfl (y_lda (cs := (S_api_Stamp.cells a0.At)) ts24 rfl rfl (Bx.row bx 1 0 rfl (by kernel_rfl))) ?_
 refine wpL_call (vs := [A8.enc .i64 a1.Knew, S_api_Stamp.enc a0.At]) tc22 (lcons rfl (lcons rfl lnil)) (crannogref09_Has.lift h) rfl ?_
 intro r5 hp h
 refine qa ?_
 refine qn ?_
 refine wpE_ret ?_
 exact body_r r5 rfl (rs_tmp rfl rs_nil) rfl h

set_option maxHeartbeats 4000000 in
theorem crannoglaw22_ModelFolds.lift {a0 : Sl} {a1 : S_api_Event} {a2 : S_api_Event} {Q : Bool → Hp → Prop} {hp : Hp} (h : crannoglaw22_ModelFolds a0 a1 a2 Q hp) : CallsH Tryz.prog 3 #[Sl.enc a0, S_api_Event.enc a1, S_api_Event.enc a2] hp (Rt Value.bool Q) := by
 unfold crannoglaw22_ModelFolds at h
 refine calls_of 32 Tryz.func3 rfl rfl ?_
 refine qs ?_
 refine wpL_boxX (vs := (S_api_Event.cells a1)) rfl rfl Bx.nil h rfl ?_
 intro b1 hp h bx
 refine wpL_boxX (vs := (S_api_Event.cells a2)) rfl rfl bx h rfl ?_
 intro b3 hp h bx
 refine qa ?_
 refine qn ?_
 refine qe ?_
 refine qs ?_
 refine qm ?_
 refine qy rfl (y_lda (cs := (S_api_Event.cells a1)) ts32 rfl rfl (Bx.row bx 1 0 rfl (by kernel_rfl))) ?_
 refine qy rfl (y_lda (cs := (S_api_Event.cells a2)) ts32 rfl rfl (Bx.row bx 0 0 rfl (by kernel_rfl))) ?_
 refine wpL_bsf Tryz.underlying22 ts32 tz32 rfl rfl (pcons rfl (pcons rfl rfl)) (full_cons rfl rfl (full_cons rfl rfl full_nil)) rfl h rfl ?_
 intro b5 hp h
 obtain ⟨kx, h⟩ := h
 replace bx := Bx.keep bx kx rfl
 refine wpL_bsl Tryz.underlying42 ts22 tz22 rfl rfl rfl (pcons rfl (pcons rfl rfl)) rfl h rfl ?_
 intro b7 hp h
 obtain ⟨kx, h⟩ := h
 replace bx := Bx.keep bx kx rfl
 refine wpL_call (vs := [Sl.enc (Sl.mk (some b7) 2 2)]) tc5 (lcons rfl lnil) (crannoglaw22_small.lift h) rfl ?_
 intro r9 hp h
 obtain ⟨kx, h⟩ := h
 replace bx := Bx.keep bx kx rfl
 refine qy rfl (y_not rfl) ?_
 refine qn ?_
 refine qc rfl h (fun h => ?_) fun h => ?_
 ·refine qs ?_
  refine wpL_call (vs := []) tc6 lnil (crannoglaw22_awake.lift h) rfl ?_
  intro r11 hp h
  refine qa ?_
  refine qn ?_
  refine wpE_ret ?_
  exact body_r r11 rfl (rs_tmp rfl rs_nil) rfl h
 ·refine wpE_skip ?_
  obtain ⟨K14, jK14, h⟩ := h
  refine wpE_seqJH K14 (fun (x13 : Bool) (ρ : Env) (hp : Hp) => ρ 6 = .bool x13 ∧ True) (fun ρ x13 hp f h => ?_) ?_
  ·obtain ⟨e6, _⟩ := f
   replace h := jK14 x13 hp h
   refine wpE_ret ?_
   exact body_r x13 rfl (rs_tmp e6 rs_nil) rfl h
  ·refine wpE_draw mixed rfl ?_
   refine qU 0 rfl rfl (fun _ => y_mv) ?_
   refine qU 2 rfl rfl (fun _ => y_mv) ?_
   refine wpA_loud (rs := [1]) (by kernel_rfl) rfl ?_
   refine mcons (step_of rfl ?_) mnil
   refine wpL_call (vs := [Sl.enc a0]) tc8 (lcons rfl lnil) (model_Fold.lift h) rfl ?_
   intro r16 hp h
   obtain ⟨kx, h⟩ := h
   replace bx := Bx.keep bx kx rfl
   refine qn ?_
   refine ⟨hs_nil, ?_⟩
   refine wpA_loud (rs := [3]) (by kernel_rfl) rfl ?_
   refine mcons (step_of rfl ?_) mnil
   refine wpL_call (vs := [Sl.enc a0]) tc9 (lcons rfl lnil) (crannogref22_Fold.lift h) rfl ?_
   intro r18 hp h
   obtain ⟨kx, h⟩ := h
   replace bx := Bx.keep bx kx rfl
   refine qn ?_
   refine ⟨hs_nil, ?_⟩
   refine wpA_loud (rs := [4]) (by kernel_rfl) rfl ?_
   refine mcons (step_of rfl ?_) mnil
   refine wpL_call (vs := [S_api_State.enc r16, S_api_State.enc r18]) tc7 (lcons rfl (lcons rfl lnil)) (crannogref10_Same.lift h) rfl ?_
   intro r20 hp h
   obtain ⟨kx, h⟩ := h
   replace bx := Bx.keep bx kx rfl
   refine qn ?_
   refine ⟨hs_nil, ?_⟩
   refine qU 5 rfl rfl (fun _ => y_mv) ?_
   refine wpA_split h (fun g22 h => ?_) (fun g22 h => ?_)
   ·refine wpA_take (i := 6) (kk := 8) (fun h => Row h b1 (S_api_Event.cells a1)) rfl rfl rfl (by kernel_rfl) (by kernel_rfl) (wt_bool rfl rfl rfl (vbool rfl g22) rfl) (fun _ _ _ _ h => h) (Bx.row bx 1 0 rfl (by kernel_rfl)) (fun _ c => y_lda (cs := (S_api_Event.cells a1)) ts32 rfl rfl c) ?_
    refine wpA_take (i := 7) (kk := 8) (fun h => Row h b3 (S_api_Event.cells a2)) rfl rfl rfl (by kernel_rfl) (by kernel_rfl) (wt_bool rfl rfl rfl (vbool rfl g22) rfl) (fun _ _ _ _ h => h) (Bx.row bx 0 0 rfl (by kernel_rfl)) (fun _ c => y_lda (cs := (S_api_Event.cells a2)) ts32 rfl rfl c) ?_
    refine wpA_take (i := 9) (kk := 11) (fun h => Row h b1 (S_api_Event.cells a1)) rfl rfl rfl (by kernel_rfl) (by kernel_rfl) (wt_bool rfl rfl rfl (vbool rfl g22) rfl) (fun _ _ _ _ h => h) (Bx.row bx 1 0 rfl (by kernel_rfl)) (fun _ c => y_lda (cs := (S_api_Event.cells a1)) ts32 rfl rfl c) ?_
    refine wpA_take (i := 10) (kk := 11) (fun h => Row h b3 (S_api_Event.cells a2)) rfl rfl rfl (by kernel_rfl) (by kernel_rfl) (wt_bool rfl rfl rfl (vbool rfl g22) rfl) (fun _ _ _ _ h => h) (Bx.row bx 0 0 rfl (by kernel_rfl)) (fun _ c => y_lda (cs := (S_api_Event.cells a2)) ts32 rfl rfl c) ?_
    refine wpA_loud (rs := [8]) (by kernel_rfl) rfl ?_
    refine mcons (step_of rfl ?_) mnil
    refine qg rfl g22 ?_
    refine wpL_call (vs := [S_api_Event.enc a1, S_api_Event.enc a2]) tc10 (lcons rfl (lcons rfl lnil)) (model_Before.lift h) rfl ?_
    intro r23 hp h
    obtain ⟨kx, h⟩ := h
    replace bx := Bx.keep bx kx rfl
    refine qn ?_
    refine ⟨hs_live (Bx.row bx 0 0 rfl (by kernel_rfl)) (hs_live (Bx.row bx 1 0 rfl (by kernel_rfl)) (hs_dead rfl (hs_dead rfl hs_nil))), ?_⟩
    refine wpA_loud (rs := [11]) (by kernel_rfl) rfl ?_
    refine mcons (step_of rfl ?_) mnil
    refine qg rfl g22 ?_
    refine wpL_call (vs := [S_api_Event.enc a1, S_api_Event.enc a2]) tc11 (lcons rfl (lcons rfl lnil)) (crannogref22_Before.lift h) rfl ?_
    intro r25 hp h
    refine qn ?_
    refine ⟨hs_dead rfl (hs_dead rfl (hs_dead rfl (hs_dead rfl hs_nil))), ?_⟩
    refine qV 12 rfl rfl g22 (fun _ => y_bin rfl rfl (bin_beql Tryz.underlying4 _ _)) ?_
    refine qU 13 rfl rfl (fun _ => y_pickt (vbool rfl g22)) ?_
    refine qU 14 rfl rfl (fun _ => y_mv) ?_
    refine wpA_split h (fun g27 h => ?_) (fun g27 h => ?_)
    ·refine wpA_loud (rs := [15]) (by kernel_rfl) rfl ?_
     refine mcons (step_of rfl ?_) mnil
     refine qg rfl g27 ?_
     refine wpL_call (vs := []) tc6 lnil (crannoglaw22_awake.lift h) rfl ?_
     intro r28 hp h
     refine qn ?_
     refine ⟨hs_dead rfl (hs_dead rfl (hs_dead rfl (hs_dead rfl hs_nil))), ?_⟩
     refine qU 16 rfl rfl (fun _ => y_pickt (vbool rfl g27)) ?_
     refine qU 17 rfl rfl (fun _ => y_as) ?_
     refine qt (by kernel_rfl) ?_
     exact ⟨r28, ⟨rfl, trivial⟩, h⟩
    ·refine qW 15 rfl rfl g27 ?_
     refine qU 16 rfl rfl (fun _ => y_pickf (vbool rfl g27)) ?_
     refine qU 17 rfl rfl (fun _ => y_as) ?_
     refine qt (by kernel_rfl) ?_
     exact ⟨false, ⟨rfl, trivial⟩, h⟩
   ·refine qW 6 rfl rfl g22 ?_
    refine qW 7 rfl rfl g22 ?_
    refine qW 8 rfl rfl g22 ?_
    refine qW 9 rfl rfl g22 ?_
    refine qW 10 rfl rfl g22 ?_
    refine qW 11 rfl rfl g22 ?_
    refine qW 12 rfl rfl g22 ?_
    refine qU 13 rfl rfl (fun _ => y_pickf (vbool rfl g22)) ?_
    refine qU 14 rfl rfl (fun _ => y_mv) ?_
    refine wpA_pass (i := 15) rfl rfl rfl (by kernel_rfl) (by kernel_rfl) (wt_bool rfl rfl rfl rfl rfl) (fun _ _ _ _ h => h) ?_
    refine qU 16 rfl rfl (fun _ => y_pickf rfl) ?_
    refine qU 17 rfl rfl (fun _ => y_as) ?_
    refine qt (by kernel_rfl) ?_
    exact ⟨false, ⟨rfl, trivial⟩, h⟩

set_option maxHeartbeats 4000000 in
theorem slices_Clone_api_Event_api_Event.lift {a0 : Sl} {Q : Sl → Hp → Prop} {hp : Hp} (h : slices_Clone_api_Event_api_Event a0 Q hp) : CallsH Tryz.prog 14 #[Sl.enc a0] hp (Rt Sl.enc Q) := by
 unfold slices_Clone_api_Event_api_Event at h
 refine calls_of 8 Tryz.func14 rfl rfl ?_
 refine qs ?_
 refine qa ?_
 refine qn ?_
 refine qe ?_
 refine qs ?_
 refine qm ?_
 refine qy rfl (y_bin rfl rfl (bin_sleql Tryz.underlying22 _)) ?_
 refine qn ?_
 refine qc rfl h (fun h => ?_) fun h => ?_
 ·refine qs ?_
  refine qa ?_
  refine qn ?_
  refine wpE_ret ?_
  exact body_r Sl.nil rfl (rs_tmp rfl rs_nil) rfl h
 ·refine wpE_skip ?_
  refine qs ?_
  refine wpL_bsf Tryz.underlying22 ts32 tz32 rfl rfl rfl full_nil rfl h rfl ?_
  intro b1 hp h
  refine qm ?_
  refine wpL_appsI Tryz.underlying22 Tryz.underlying22 ts32 ti32 (by decide) tz32 rfl (lcons rfl (lcons rfl lnil)) h rfl ?_
  intro v3 hp h
  refine qa ?_
  refine qn ?_
  refine wpE_ret ?_
  exact body_r v3 rfl (rs_tmp rfl rs_nil) rfl h

set_option maxHeartbeats 4000000 in
theorem crannoglaw22_ModelJoined.lift {a0 : Sl} {a1 : Sl} {Q : Bool → Hp → Prop} {hp : Hp} (h : crannoglaw22_ModelJoined a0 a1 Q hp) : CallsH Tryz.prog 4 #[Sl.enc a0, Sl.enc a1] hp (Rt Value.bool Q) := by
 unfold crannoglaw22_ModelJoined at h
 refine calls_of 38 Tryz.func4 rfl rfl ?_
 refine qs ?_
 refine qa ?_
 refine qn ?_
 refine qe ?_
 refine qs ?_
 iterate 2 refine qm ?_
 refine wpL_bsl Tryz.underlying42 ts22 tz22 rfl rfl rfl (pcons rfl (pcons rfl rfl)) rfl h rfl ?_
 intro b1 hp h
 refine wpL_call (vs := [Sl.enc (Sl.mk (some b1) 2 2)]) tc5 (lcons rfl lnil) (crannoglaw22_small.lift h) rfl ?_
 intro r3 hp h
 refine qy rfl (y_not rfl) ?_
 refine qn ?_
 refine qc rfl h (fun h => ?_) fun h => ?_
 ·refine qs ?_
  refine wpL_call (vs := []) tc6 lnil (crannoglaw22_awake.lift h) rfl ?_
  intro r5 hp h
  refine qa ?_
  refine qn ?_
  refine wpE_ret ?_
  exact body_r r5 rfl (rs_tmp rfl rs_nil) rfl h
 ·refine wpE_skip ?_
  refine qs ?_
  refine qm ?_
  refine wpL_call (vs := [Sl.enc a0]) tc8 (lcons rfl lnil) (model_Fold.lift h) rfl ?_
  intro r7 hp h
  refine qm ?_
  refine wpL_call (vs := [Sl.enc a1]) tc8 (lcons rfl lnil) (model_Fold.lift h) rfl ?_
  intro r9 hp h
  refine wpL_call (vs := [S_api_State.enc r7, S_api_State.enc r9]) tc12 (lcons rfl (lcons rfl lnil)) (join_States.lift h) rfl ?_
  intro r11 hp h
  refine wpL_allocX (zs := (S_api_State.cells (S_api_State.mk (A8.mk 0 0 0 0 0 0 0 0) Sl.nil Sl.nil))) tz30 rfl Bx.nil h rfl ?_
  intro b13 hp h bx
  refine wpL_staX (L' := [(b13, (S_api_State.cells r11))]) (i := 0) (off := 0) (cs' := (S_api_State.cells r11)) ts30 rfl rfl rfl rfl bx rfl (by kernel_rfl) h (by kernel_rfl) (by kernel_rfl) ?_
  intro hp h bx
  refine qn ?_
  refine qs ?_
  refine qm ?_
  refine wpL_call (vs := [Sl.enc a0]) tc9 (lcons rfl lnil) (crannogref22_Fold.lift h) rfl ?_
  intro r16 hp h
  obtain ⟨kx, h⟩ := h
  replace bx := Bx.keep bx kx rfl
  refine qm ?_
  refine wpL_call (vs := [Sl.enc a1]) tc9 (lcons rfl lnil) (crannogref22_Fold.lift h) rfl ?_
  intro r18 hp h
  obtain ⟨kx, h⟩ := h
  replace bx := Bx.keep bx kx rfl
  refine wpL_call (vs := [S_api_State.enc r16, S_api_State.enc r18]) tc13 (lcons rfl (lcons rfl lnil)) (crannogref11_States.lift h) rfl ?_
  intro r20 hp h
  obtain ⟨kx, h⟩ := h
  replace bx := Bx.keep bx kx rfl
  refine wpL_allocX (zs := (S_api_State.cells (S_api_State.mk (A8.mk 0 0 0 0 0 0 0 0) Sl.nil Sl.nil))) tz30 rfl bx h rfl ?_
  intro b22 hp h bx
  refine wpL_staX (L' := [(b22, (S_api_State.cells r20)), (b13, (S_api_State.cells r11))]) (i := 0) (off := 0) (cs' := (S_api_State.cells r20)) ts30 rfl rfl rfl rfl bx rfl (by kernel_rfl) h (by kernel_rfl) (by kernel_rfl) ?_
  intro hp h bx
  refine qn ?_
  obtain ⟨K26, jK26, h⟩ := h
  refine wpE_seqJH K26 (fun (x25 : Bool) (ρ : Env) (hp : Hp) => ρ 4 = .bool x25 ∧ True) (fun ρ x25 hp f h => ?_) ?_
  ·obtain ⟨e4, _⟩ := f
   replace h := jK26 x25 hp h
   refine wpE_ret ?_
   exact body_r x25 rfl (rs_tmp e4 rs_nil) rfl h
  ·refine wpE_draw mixed rfl ?_
   refine qT 0 2 (fun h => Row h b13 (S_api_State.cells r11)) rfl rfl (Bx.row bx 1 0 rfl (by kernel_rfl)) (fun _ c => y_lda (cs := (S_api_State.cells r11)) ts30 rfl rfl c) ?_
   refine qT 1 2 (fun h => Row h b22 (S_api_State.cells r20)) rfl rfl (Bx.row bx 0 0 rfl (by kernel_rfl)) (fun _ c => y_lda (cs := (S_api_State.cells r20)) ts30 rfl rfl c) ?_
   refine wpA_loud (rs := [2]) (by kernel_rfl) rfl ?_
   refine mcons (step_of rfl ?_) mnil
   refine wpL_call (vs := [S_api_State.enc r11, S_api_State.enc r20]) tc7 (lcons rfl (lcons rfl lnil)) (crannogref10_Same.lift h) rfl ?_
   intro r28 hp h
   obtain ⟨kx, h⟩ := h
   replace bx := Bx.keep (bx.sub (L' := [(b13, (S_api_State.cells r11))]) (.cons _ (.cons_cons _ .slnil))) kx rfl
   refine qn ?_
   refine ⟨hs_dead rfl (hs_dead rfl hs_nil), ?_⟩
   refine qU 3 rfl rfl (fun _ => y_mv) ?_
   refine wpA_split h (fun g30 h => ?_) (fun g30 h => ?_)
   ·refine wpA_take (i := 4) (kk := 10) (fun h => Row h b13 (S_api_State.cells r11)) rfl rfl rfl (by kernel_rfl) (by kernel_rfl) (wt_bool rfl rfl rfl (vbool rfl g30) rfl) (fun _ _ _ _ h => h) (Bx.row bx 0 0 rfl (by kernel_rfl)) (fun _ c => y_lda (cs := (S_api_State.cells r11)) ts30 rfl rfl c) ?_
    refine qV 5 rfl rfl g30 (fun _ => y_mv) ?_
    refine qV 7 rfl rfl g30 (fun _ => y_mv) ?_
    refine wpA_loud (rs := [6]) (by kernel_rfl) rfl ?_
    refine mcons (step_of rfl ?_) mnil
    refine qg rfl g30 ?_
    refine wpL_call (vs := [Sl.enc a0]) tc14 (lcons rfl lnil) (slices_Clone_api_Event_api_Event.lift h) rfl ?_
    intro r31 hp h
    obtain ⟨kx, h⟩ := h
    replace bx := Bx.keep bx kx rfl
    refine qn ?_
    refine ⟨hs_live (Bx.row bx 0 0 rfl (by kernel_rfl)) (hs_dead rfl (hs_dead rfl hs_nil)), ?_⟩
    refine wpA_loud (rs := [8]) (by kernel_rfl) rfl ?_
    refine mcons (step_of rfl ?_) mnil
    refine qg rfl g30 ?_
    refine wpL_appsI Tryz.underlying22 Tryz.underlying22 ts32 ti32 (by decide) tz32 rfl (lcons rfl (lcons rfl lnil)) h rfl ?_
    intro v33 hp h
    obtain ⟨kx, h⟩ := h
    replace bx := Bx.keep bx kx rfl
    refine qn ?_
    refine ⟨hs_live (Bx.row bx 0 0 rfl (by kernel_rfl)) (hs_dead rfl (hs_dead rfl hs_nil)), ?_⟩
    refine wpA_loud (rs := [9]) (by kernel_rfl) rfl ?_
    refine mcons (step_of rfl ?_) mnil
    refine qg rfl g30 ?_
    refine wpL_call (vs := [Sl.enc v33]) tc8 (lcons rfl lnil) (model_Fold.lift h) rfl ?_
    intro r35 hp h
    obtain ⟨kx, h⟩ := h
    replace bx := Bx.keep bx kx rfl
    refine qn ?_
    refine ⟨hs_live (Bx.row bx 0 0 rfl (by kernel_rfl)) (hs_dead rfl (hs_dead rfl hs_nil)), ?_⟩
    refine wpA_loud (rs := [10]) (by kernel_rfl) rfl ?_
    refine mcons (step_of rfl ?_) mnil
    refine qg rfl g30 ?_
    refine wpL_call (vs := [S_api_State.enc r11, S_api_State.enc r35]) tc7 (lcons rfl (lcons rfl lnil)) (crannogref10_Same.lift h) rfl ?_
    intro r37 hp h
    refine qn ?_
    refine ⟨hs_dead rfl (hs_dead rfl (hs_dead rfl hs_nil)), ?_⟩
    refine qU 11 rfl rfl (fun _ => y_pickt (vbool rfl g30)) ?_
    refine qU 12 rfl rfl (fun _ => y_mv) ?_
    refine wpA_split h (fun g39 h => ?_) (fun g39 h => ?_)
    ·refine wpA_loud (rs := [13]) (by kernel_rfl) rfl ?_
     refine mcons (step_of rfl ?_) mnil
     refine qg rfl g39 ?_
     refine wpL_call (vs := []) tc6 lnil (crannoglaw22_awake.lift h) rfl ?_
     intro r40 hp h
     refine qn ?_
     refine ⟨hs_dead rfl (hs_dead rfl (hs_dead rfl hs_nil)), ?_⟩
     refine qU 14 rfl rfl (fun _ => y_pickt (vbool rfl g39)) ?_
     refine qU 15 rfl rfl (fun _ => y_as) ?_
     refine qt (by kernel_rfl) ?_
     exact ⟨r40, ⟨rfl, trivial⟩, h⟩
    ·refine qW 13 rfl rfl g39 ?_
     refine qU 14 rfl rfl (fun _ => y_pickf (vbool rfl g39)) ?_
     refine qU 15 rfl rfl (fun _ => y_as) ?_
     refine qt (by kernel_rfl) ?_
     exact ⟨false, ⟨rfl, trivial⟩, h⟩
   ·refine qW 4 rfl rfl g30 ?_
    refine qW 5 rfl rfl g30 ?_
    refine qW 6 rfl rfl g30 ?_
    refine qW 7 rfl rfl g30 ?_
    refine qW 8 rfl rfl g30 ?_
    refine qW 9 rfl rfl g30 ?_
    refine qW 10 rfl rfl g30 ?_
    refine qU 11 rfl rfl (fun _ => y_pickf (vbool rfl g30)) ?_
    refine qU 12 rfl rfl (fun _ => y_mv) ?_
    refine wpA_pass (i := 13) rfl rfl rfl (by kernel_rfl) (by kernel_rfl) (wt_bool rfl rfl rfl rfl rfl) (fun _ _ _ _ h => h) ?_
    refine qU 14 rfl rfl (fun _ => y_pickf rfl) ?_
    refine qU 15 rfl rfl (fun _ => y_as) ?_
    refine qt (by kernel_rfl) ?_
    exact ⟨false, ⟨rfl, trivial⟩, h⟩

end Go.Proofs.L
