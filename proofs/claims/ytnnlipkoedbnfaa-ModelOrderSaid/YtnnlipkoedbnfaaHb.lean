/- The program's and the reference's functions by their formulas; rows as lattices; the laws. -/
import Derived.Test.YtnnlipkoedbnfaaHa
import Derived.Test.YtnnlipkoedbnfaaTla
import Derived.Test.YtnnlipkoedbnfaaTlb
import Derived.Test.YtnnlipkoedbnfaaTf
import Derived.Test.YtnnlipkoedbnfaaRows
set_option linter.unusedVariables false
namespace Go.Lf
open Go.Crn
/-! ## the rows of a state, as lattices -/
theorem Ord3.cAttr : Ord3 cAttr := Ord3.lex (S := S_api_Attr) (c := fun x y => cStamp x.At y.At) (d := fun x y => [cI x.Mode y.Mode, cI x.Time y.Time]) (Ord3.stamp.comap S_api_Attr.At) (Ord3.lex (S := S_api_Attr) (c := fun x y => cI x.Mode y.Mode) (d := fun x y => [cI x.Time y.Time]) (Ord3.int.comap S_api_Attr.Mode) (Ord3.orL1 (S := S_api_Attr) (c := fun x y => cI x.Time y.Time) (Ord3.int.comap S_api_Attr.Time)))
theorem Ord3.cSize : Ord3 cSize := Ord3.lex (S := S_api_Size) (c := fun x y => cStamp x.At y.At) (d := fun x y => [cI x.N y.N]) (Ord3.stamp.comap S_api_Size.At) (Ord3.orL1 (S := S_api_Size) (c := fun x y => cI x.N y.N) (Ord3.int.comap S_api_Size.N))
theorem Ord3.cPiece : Ord3 cPiece := Ord3.lex (S := S_api_Piece) (c := fun x y => cStamp x.At y.At) (d := fun x y => [cS x.Data y.Data]) (Ord3.stamp.comap S_api_Piece.At) (Ord3.orL1 (S := S_api_Piece) (c := fun x y => cS x.Data y.Data) (Ord3.str.comap S_api_Piece.Data))
theorem Ord3.cXattr : Ord3 cXattr := Ord3.lex (S := S_api_Xattr) (c := fun x y => cStamp x.At y.At) (d := fun x y => [cI (flagI x.Gone) (flagI y.Gone), cS x.Val y.Val]) (Ord3.stamp.comap S_api_Xattr.At) (Ord3.lex (S := S_api_Xattr) (c := fun x y => cI (flagI x.Gone) (flagI y.Gone)) (d := fun x y => [cS x.Val y.Val]) (Ord3.int.comap fun x => flagI (S_api_Xattr.Gone x)) (Ord3.orL1 (S := S_api_Xattr) (c := fun x y => cS x.Val y.Val) (Ord3.str.comap S_api_Xattr.Val)))
theorem Ord3.cPlace : Ord3 cPlace := Ord3.lex (S := S_api_Link) (c := fun x y => cStamp x.At y.At) (d := fun x y => [cStamp x.Parent y.Parent, cS x.Name y.Name]) (Ord3.stamp.comap S_api_Link.At) (Ord3.lex (S := S_api_Link) (c := fun x y => cStamp x.Parent y.Parent) (d := fun x y => [cS x.Name y.Name]) (Ord3.stamp.comap S_api_Link.Parent) (Ord3.orL1 (S := S_api_Link) (c := fun x y => cS x.Name y.Name) (Ord3.str.comap S_api_Link.Name)))
theorem cPiece_eq {a b : S_api_Piece} : cPiece a b = 0 ↔ a.At = b.At ∧ a.Data = b.Data := by unfold cPiece; rw [orL_eq, orL_one, cS_eq, cStamp_eq]
theorem cXattr_eq {a b : S_api_Xattr} : cXattr a b = 0 ↔ a.At = b.At ∧ a.Gone = b.Gone ∧ a.Val = b.Val := by unfold cXattr; rw [orL_eq, orL_eq, orL_one, cS_eq, cStamp_eq, flag_eq]
theorem cPlace_eq {a b : S_api_Link} : cPlace a b = 0 ↔ a.At = b.At ∧ a.Parent = b.Parent ∧ a.Name = b.Name := by unfold cPlace; rw [orL_eq, orL_eq, orL_one, cS_eq, cStamp_eq, cStamp_eq]
theorem cAttr_eq {a b : S_api_Attr} : cAttr a b = 0 ↔ a = b := by unfold cAttr; rw [orL_eq, orL_eq, orL_one, cI_eq, cI_eq, cStamp_eq]; cases a; cases b; simp
theorem cSize_eq {a b : S_api_Size} : cSize a b = 0 ↔ a = b := by unfold cSize; rw [orL_eq, orL_one, cI_eq, cStamp_eq]; cases a; cases b; simp
theorem Lat.piece : Lat kPiece (gr cPiece) := Lat.ofGr KeyOf.piece Ord3.cPiece fun x y h1 h2 => by
  have h1 := cI_eq.1 h1
  obtain ⟨h2, h3⟩ := cPiece_eq.1 h2
  cases x; cases y; simp_all
theorem Lat.xattr : Lat kXattr (gr cXattr) := Lat.ofGr KeyOf.xattr Ord3.cXattr fun x y h1 h2 => by
  have h1 := cS_eq.1 h1
  obtain ⟨h2, h3, h4⟩ := cXattr_eq.1 h2
  cases x; cases y; simp_all
/-! ### one of two, in an order without ties -/
structure Tot {S : Type} (c : S → S → Int) : Prop where
  ord : Ord3 c
  eq : ∀ x y, c x y = 0 → x = y
theorem Tot.lat {S : Type} {c : S → S → Int} (t : Tot c) : Lat (fun _ _ => 0) (gr c) := Lat.ofGr ⟨⟨fun _ => rfl, fun _ _ => by simp, fun _ _ _ _ _ => by simp⟩, fun _ _ _ _ => rfl, fun _ _ _ _ => rfl⟩ t.ord fun x y _ h => t.eq x y h
theorem Tot.comm {S : Type} {c : S → S → Int} (t : Tot c) (x y : S) : gr c x y = gr c y x := t.lat.comm rfl
theorem Tot.assoc {S : Type} {c : S → S → Int} (t : Tot c) (x y z : S) : gr c (gr c x y) z = gr c x (gr c y z) := t.lat.assoc rfl rfl
theorem gr_self {S : Type} {c : S → S → Int} (x : S) : gr c x x = x := by simp [gr]
theorem Tot.attr : Tot cAttr := ⟨Ord3.cAttr, fun _ _ h => cAttr_eq.1 h⟩
theorem Tot.size : Tot cSize := ⟨Ord3.cSize, fun _ _ h => cSize_eq.1 h⟩
theorem Tot.stamp : Tot cStamp := ⟨Ord3.stamp, fun _ _ h => cStamp_eq.1 h⟩
theorem Tot.str : Tot cS := ⟨Ord3.str, fun _ _ h => cS_eq.1 h⟩
theorem sMax_gr (a b : Str) : sMax a b = gr cS a b := by simp only [sMax, gr, cS_lt]
theorem iMax_gr (a b : Int) : iMax a b = max a b := by unfold iMax; split <;> omega
theorem vJoin_comm (a b : A8 Int) : vJoin a b = vJoin b a := by simp only [vJoin, Int.max_comm]
theorem vJoin_assoc (a b c : A8 Int) : vJoin (vJoin a b) c = vJoin a (vJoin b c) := by simp only [vJoin, Int.max_assoc]
theorem vJoin_self (a : A8 Int) : vJoin a a = a := by cases a; simp [vJoin]
/-! ### the place of a link -/
structure PlaceM where
  At : S_api_Stamp
  Parent : S_api_Stamp
  Name : Str
def cPl (a b : PlaceM) : Int := orL [cStamp a.At b.At, cStamp a.Parent b.Parent, cS a.Name b.Name]
def plOf (a : S_api_Link) : PlaceM := ⟨a.At, a.Parent, a.Name⟩
theorem Tot.pl : Tot cPl := by
  refine ⟨Ord3.lex (S := PlaceM) (c := fun x y => cStamp x.At y.At) (d := fun x y => [cStamp x.Parent y.Parent, cS x.Name y.Name]) (Ord3.stamp.comap PlaceM.At) (Ord3.lex (S := PlaceM) (c := fun x y => cStamp x.Parent y.Parent) (d := fun x y => [cS x.Name y.Name]) (Ord3.stamp.comap PlaceM.Parent) (Ord3.orL1 (S := PlaceM) (c := fun x y => cS x.Name y.Name) (Ord3.str.comap PlaceM.Name))), fun x y h => ?_⟩
  unfold cPl at h
  rw [orL_eq, orL_eq, orL_one, cS_eq, cStamp_eq, cStamp_eq] at h
  cases x; cases y; simp_all
theorem pl_gr (a b : S_api_Link) : plOf (gr cPlace a b) = gr cPl (plOf a) (plOf b) := by
  have : cPlace a b = cPl (plOf a) (plOf b) := rfl
  simp only [gr, this]; split <;> rfl
def mkL (i n : S_api_Stamp) (p : PlaceM) (a d : A8 Int) : S_api_Link := ⟨i, n, p.At, p.Parent, p.Name, a, d⟩
theorem mLink_mk (a b : S_api_Link) : mLink a b = mkL a.Id (gr cStamp a.Node b.Node) (gr cPl (plOf a) (plOf b)) (vJoin a.Alive b.Alive) (vJoin a.Dead b.Dead) := by
  rw [← pl_gr]; rfl
theorem plOf_mLink (a b : S_api_Link) : plOf (mLink a b) = gr cPl (plOf a) (plOf b) := by rw [mLink_mk]; rfl
theorem Lat.link : Lat kLink mLink := by
  refine ⟨KeyOf.link, fun {x y} h => ?_, fun {x y z} _ _ => ?_, fun {x y} _ => ?_⟩
  · have : x.Id = y.Id := cStamp_eq.1 h
    rw [mLink_mk, mLink_mk, this, Tot.stamp.comm, Tot.pl.comm, vJoin_comm, vJoin_comm x.Dead]
  · rw [mLink_mk (mLink x y), mLink_mk x (mLink y z), plOf_mLink, plOf_mLink, Tot.pl.assoc]
    simp only [mLink, Tot.stamp.assoc, vJoin_assoc]
  · rw [mLink_mk (mLink x x), mLink_mk x y, plOf_mLink, gr_self]
    simp only [mLink, gr_self, vJoin_self]
theorem mLink_self (x : S_api_Link) : mLink x x = x := by
  simp only [mLink, gr_self, vJoin_self]
/-! ### pieces and xattrs -/
theorem rput_rp {S : Type} {k d : S → S → Int} {l : List S} {x : S} : rput k (gr d) id l x = rp k (gr d) l x := by
  have : (fun x => gr d x x) = (id : S → S) := by funext x; simp [gr]
  rw [rp, this]
theorem mrg_rps {S : Type} {k d : S → S → Int} (w : KeyOf k (gr d)) (l : List S) : mrg k (gr d) l = rps k (gr d) [] l := by
  rw [← rput_all w]
  have : rput k (gr d) id = rp k (gr d) := by funext l x; exact rput_rp
  rw [this]
theorem mPieces_rps (l : List S_api_Piece) : mPieces l = rps kPiece (gr cPiece) [] l := mrg_rps KeyOf.piece l
theorem mXattrs_rps (l : List S_api_Xattr) : mXattrs l = rps kXattr (gr cXattr) [] l := mrg_rps KeyOf.xattr l
theorem rps_app {M : Type} {c : M → M → Int} {o : M → M → M} (l a b : List M) : rps c o l (a ++ b) = rps c o (rps c o l a) b := by simp [rps, List.foldl_append]
theorem rise_nil {M : Type} {c : M → M → Int} : Rise c ([] : List M) := .nil
section
variable {M : Type} {c : M → M → Int} {o : M → M → M}
theorem all_comm (w : Lat c o) (a b : List M) : rps c o [] (a ++ b) = rps c o [] (b ++ a) := rps_set w rise_nil fun x => by simp [or_comm]
theorem all_self (w : Lat c o) (a : List M) : rps c o [] (a ++ a) = rps c o [] a := rps_set w rise_nil fun x => by simp
theorem all_l (w : Lat c o) (a b : List M) : rps c o [] (rps c o [] a ++ b) = rps c o [] (a ++ b) := by
  rw [all_comm w, rps_app, rps_flat w (rps_rise w b rise_nil), ← rps_app, all_comm w]
theorem all_r (w : Lat c o) (a b : List M) : rps c o [] (a ++ rps c o [] b) = rps c o [] (a ++ b) := by
  rw [rps_app, rps_flat w (rps_rise w a rise_nil), ← rps_app]
end
theorem mInode_self (x : InodeM) : mInode x x = normI x := by
  simp only [mInode, normI, gr_self, sMax_gr, iMax_gr, Int.max_self, mPieces_rps, mXattrs_rps, all_self Lat.piece, all_self Lat.xattr]
theorem Lat.inode : Lat kInodeM mInode := by
  refine ⟨KeyOf.inode, fun {x y} h => ?_, fun {x y z} _ _ => ?_, fun {x y} _ => ?_⟩
  · have : x.Id = y.Id := cStamp_eq.1 h
    simp only [mInode, this, sMax_gr, iMax_gr, mPieces_rps, mXattrs_rps]
    rw [Tot.str.comm, Tot.attr.comm, Tot.size.comm, Int.max_comm, all_comm Lat.piece, all_comm Lat.xattr]
  · simp only [mInode, sMax_gr, iMax_gr, mPieces_rps, mXattrs_rps]
    rw [Tot.str.assoc, Tot.attr.assoc, Tot.size.assoc, Int.max_assoc, all_l Lat.piece, all_l Lat.xattr, all_r Lat.piece, all_r Lat.xattr, List.append_assoc, List.append_assoc]
  · rw [mInode_self]
    simp only [mInode, normI, mPieces_rps, mXattrs_rps]
    rw [all_l Lat.piece, all_l Lat.xattr]
/-! ### states -/
theorem mNodes_norm (l : List InodeM) : (mNodes l).map normI = rps kInodeM mInode [] l := by
  refine snocInd (P := fun l => (mNodes l).map normI = rps kInodeM mInode [] l) rfl (fun l x ih => ?_) l
  have e : rps kInodeM mInode [] (l ++ [x]) = rp kInodeM mInode (rps kInodeM mInode [] l) x := by simp only [rps, List.foldl_append]; rfl
  rw [e, ← ih, mNodes, mrg_snoc KeyOf.inode]
  have hr : Rise kInodeM (mrg kInodeM mInode l) := mfold_rises KeyOf.inode _ (isort_ss Ord3.kInodeM.swo l).sorted
  obtain ⟨A, B, hA, hB, hh⟩ := hr.split Ord3.kInodeM x
  have mp : ∀ {p : InodeM → Prop} {L : List InodeM}, (∀ a ∈ L, p (normI a)) → ∀ b ∈ L.map normI, p b := fun h b hb => by
    obtain ⟨a, ha, rfl⟩ := List.mem_map.1 hb; exact h a ha
  have nn : ∀ a, normI (mInode a x) = mInode (normI a) x := fun a => by
    simp only [mInode, normI, mPieces_rps, mXattrs_rps]
    have h1 := all_l Lat.piece (a.Pieces ++ x.Pieces) []
    have h2 := all_l Lat.xattr (a.Xattrs ++ x.Xattrs) []
    simp only [List.append_nil] at h1 h2
    rw [h1, h2, all_l Lat.piece, all_l Lat.xattr]
  have hi : (fun x => mInode x x) = normI := by funext x; exact mInode_self x
  rw [rp, hi]
  rcases hh with ⟨h1, _⟩ | ⟨y, h0, h1, _⟩
  · rw [show mNodes l = mrg kInodeM mInode l from rfl, h1, rput_new Ord3.kInodeM id hA hB, List.map_append, List.map_append, rput_new Ord3.kInodeM normI (mp (p := fun a => kInodeM a x < 0) hA) (mp (p := fun b => kInodeM x b < 0) hB)]
    simp
  · rw [show mNodes l = mrg kInodeM mInode l from rfl, h1, rput_same Ord3.kInodeM id hA h0 hB, List.map_append, List.map_cons, List.map_append, List.map_cons, rput_same Ord3.kInodeM normI (y := normI y) (mp (p := fun a => kInodeM a x < 0) hA) h0 (mp (p := fun b => kInodeM x b < 0) hB)]
    simp [nn]
theorem mLinks_rps (l : List S_api_Link) : mLinks l = rps kLink mLink [] l := by
  rw [mLinks, ← rput_all KeyOf.link]
  have : rput kLink mLink id = rp kLink mLink := by
    funext l x
    have : (fun x => mLink x x) = (id : S_api_Link → S_api_Link) := by funext x; exact mLink_self x
    rw [rp, this]
  rw [this]
def okS (s : StateM) : Prop := Rise kInodeM s.Nodes ∧ (∀ x ∈ s.Nodes, mInode x x = x) ∧ Rise kLink s.Links
theorem emptyM_ok : okS emptyM := ⟨by simp [Rise, emptyM], by
  intro x hx
  simp only [emptyM, List.mem_cons, List.not_mem_nil, or_false] at hx
  subst hx
  rw [mInode_self]; rfl, .nil⟩
/-- all of a list of states, put one by one -/
def putS (s m : StateM) : StateM := ⟨vJoin s.Seen m.Seen, rps kInodeM mInode s.Nodes m.Nodes, rps kLink mLink s.Links m.Links⟩
theorem mStates_put {s : StateM} (hs : okS s) (m : StateM) : mStates s m = putS s m := by
  simp only [mStates, putS, mNodes_norm, mLinks_rps, rps_app]
  rw [rps_self Lat.inode hs.1 hs.2.1, rps_self Lat.link hs.2.2 fun x _ => mLink_self x]
theorem putS_ok {s : StateM} (hs : okS s) (m : StateM) : okS (putS s m) := ⟨rps_rise Lat.inode _ hs.1, rps_ok Lat.inode _ hs.1 hs.2.1, rps_rise Lat.link _ hs.2.2⟩
theorem mFold_ok : ∀ (l : List EventM), okS (mFold l) ∧ mFold l = l.foldl (fun s e => putS s e.Delta) emptyM := by
  refine snocInd ⟨emptyM_ok, rfl⟩ fun l x ih => ?_
  have e : mFold (l ++ [x]) = mStates (mFold l) x.Delta := by simp [mFold, List.foldl_append]
  rw [e, mStates_put ih.1, List.foldl_append, ← ih.2]
  exact ⟨putS_ok ih.1 _, rfl⟩
theorem putS_comm {s : StateM} (hs : okS s) (a b : StateM) : putS (putS s a) b = putS (putS s b) a := by
  simp only [putS, vJoin_assoc]
  rw [vJoin_comm a.Seen, rps_rps Lat.inode _ hs.1, rps_rps Lat.link _ hs.2.2]
theorem putS_idem {s : StateM} (hs : okS s) (a : StateM) : putS (putS s a) a = putS s a := by
  simp only [putS, vJoin_assoc, vJoin_self]
  rw [rps_sub Lat.inode hs.1 _ fun _ h => h, rps_sub Lat.link hs.2.2 _ fun _ h => h]
def puts (s : StateM) (l : List EventM) : StateM := l.foldl (fun s e => putS s e.Delta) s
theorem puts_app (s : StateM) (a b : List EventM) : puts s (a ++ b) = puts (puts s a) b := by simp [puts, List.foldl_append]
theorem puts_ok : ∀ (l : List EventM) {s : StateM}, okS s → okS (puts s l)
  | [], _, h => h
  | e :: l, _, h => puts_ok l (putS_ok h e.Delta)
theorem puts_put : ∀ (l : List EventM) {s : StateM}, okS s → ∀ a, puts (putS s a) l = putS (puts s l) a
  | [], _, _, _ => rfl
  | e :: l, s, h, a => by
    simp only [puts, List.foldl_cons]
    rw [putS_comm h]
    exact puts_put l (putS_ok h _) a
theorem puts_in : ∀ (l : List EventM) {s : StateM}, okS s → ∀ e ∈ l, putS (puts s l) e.Delta = puts s l
  | [], _, _, e, he => by simp at he
  | x :: l, s, h, e, he => by
    rw [show puts s (x :: l) = puts (putS s x.Delta) l from rfl]
    rcases List.mem_cons.1 he with rfl | he
    · rw [puts_put l h, putS_idem (puts_ok l h)]
    · exact puts_in l (putS_ok h _) e he
theorem puts_sub {s : StateM} (h : okS s) {k : List EventM} : ∀ (j : List EventM), (∀ e ∈ j, e ∈ k) → puts (puts s k) j = puts s k
  | [], _ => rfl
  | x :: j, hs => by
    rw [show puts (puts s k) (x :: j) = puts (putS (puts s k) x.Delta) j from rfl, puts_in k h x (hs x (by simp))]
    exact puts_sub h j fun y hy => hs y (by simp [hy])
theorem puts_puts : ∀ (j : List EventM) {s : StateM} {k : List EventM}, okS s → puts (puts s k) j = puts (puts s j) k
  | [], _, _, _ => rfl
  | x :: j, s, k, h => by
    rw [show puts (puts s k) (x :: j) = puts (putS (puts s k) x.Delta) j from rfl, ← puts_put k h, show puts s (x :: j) = puts (putS s x.Delta) j from rfl]
    exact puts_puts j (putS_ok h _)
/-- P22.3: neither order nor how often -/
theorem mFold_set {k j : List EventM} (hs : ∀ x, x ∈ k ↔ x ∈ j) : mFold k = mFold j := by
  rw [(mFold_ok k).2, (mFold_ok j).2]
  show puts emptyM k = puts emptyM j
  rw [← puts_sub emptyM_ok j fun x hx => (hs x).2 hx, puts_puts j emptyM_ok, puts_sub emptyM_ok k fun x hx => (hs x).1 hx]
/-- P22.3: two lists, each as one, as one -/
theorem mFold_join (a b : List EventM) : mStates (mFold a) (mFold b) = mFold (a ++ b) := by
  rw [mStates_put (mFold_ok a).1, (mFold_ok (a ++ b)).2, (mFold_ok a).2]
  show putS (puts emptyM a) _ = puts emptyM (a ++ b)
  rw [puts_app]
  have ha : okS (puts emptyM a) := puts_ok a emptyM_ok
  have base : putS (puts emptyM a) emptyM = puts emptyM a := by
    rw [← puts_put a emptyM_ok]
    congr 1
  refine snocInd (P := fun b => putS (puts emptyM a) (mFold b) = puts (puts emptyM a) b) base (fun l x ih => ?_) b
  rw [puts_app, ← ih]
  have e : mFold (l ++ [x]) = mStates (mFold l) x.Delta := by simp [mFold, List.foldl_append]
  have hl := (mFold_ok l).1
  rw [e, mStates_put hl]
  show putS (puts emptyM a) (putS (mFold l) x.Delta) = putS (putS (puts emptyM a) (mFold l)) x.Delta
  simp only [putS, vJoin_assoc]
  congr 1
  · rw [← rps_app, ← rps_self Lat.inode hl.1 hl.2.1]
    conv => lhs; rw [← rps_app, rps_flat Lat.inode ha.1]
    rw [rps_app, rps_app, rps_flat Lat.inode ha.1]
  · rw [← rps_app, ← rps_self Lat.link hl.2.2 fun x _ => mLink_self x]
    conv => lhs; rw [← rps_app, rps_flat Lat.link ha.2.2]
    rw [rps_app, rps_app, rps_flat Lat.link ha.2.2]
end Go.Lf
namespace Go.Lf
open Go.Crn
variable {h : Hp}
/-- two rows that read alike, gone through -/
theorem eqloop_ {S : Type} {e : Elt S} {eqb : S → S → Bool} {A B : Nat → Prop} {a b : Sl} {l : List S} {F T : Hp → Prop} (he : ∀ x, eqb x x = true) (ra : Rows A e h a l) (rb : Rows B e h b l) (hn : l.length < 2 ^ 62) (k : T h) :
    LoopF (σ := Int) 0 h fun u h3 L2 =>
      If (decide (u < (a.len : Int))) (
        Ix a u e.sz fun p5 =>
        LdA e.cells h3 p5 fun v7 =>
        Ix b u e.sz fun p9 =>
        LdA e.cells h3 p9 fun v11 =>
        If (!eqb v7 v11) (F h3) (L2 (IntKind.wrap .i64 (u + (1 : Int))) h3)
      ) (T h3) := by
  have hl := ra.1
  refine loop_ (fun m u h1 => h1 = h ∧ ∃ i : Nat, i ≤ l.length ∧ u = (i : Int) ∧ m = l.length - i) l.length ⟨rfl, 0, by omega, rfl, rfl⟩ ?_
  rintro m u h1 ⟨rfl, i, hi, rfl, rfl⟩
  refine if_ (fun g => ?_) fun g => k
  simp only [decide_eq_true_eq] at g
  have hil : i < l.length := by omega
  have gx : l[i]? = some l[i] := by simp [hil]
  generalize l[i] = x at gx
  refine ixlda ra rfl gx fun _ _ _ => ixlda rb rfl gx fun _ _ _ => ?_
  rw [he]
  exact if_false ⟨l.length - (i + 1), by omega, by trivial, i + 1, by omega, by rw [wi (by omega) (by omega)]; rfl, rfl⟩
theorem lens_eq {S T : Type} {e : Elt S} {e' : Elt T} {A B : Nat → Prop} {a b : Sl} {l : List S} {l' : List T} (ra : Rows A e h a l) (rb : Rows B e' h b l') (hl : l.length = l'.length) : ((a.len : Int) != (b.len : Int)) = false := by
  rw [ra.1, rb.1, hl]; simp
theorem equalP_ {A B : Nat → Prop} {a b : Sl} {l : List S_api_Piece} {Q : Bool → Hp → Prop} (ra : Rows A ePiece h a l) (rb : Rows B ePiece h b l) (hn : l.length < 2 ^ 62) (k : Q true h) : slices_Equal_api_Piece_api_Piece a b Q h := by
  unfold slices_Equal_api_Piece_api_Piece
  rw [lens_eq ra rb rfl]
  exact if_false (eqloop_ (e := ePiece) (fun x => S_api_Piece.eqb_iff.2 rfl) ra rb hn k)
theorem equalX_ {A B : Nat → Prop} {a b : Sl} {l : List S_api_Xattr} {Q : Bool → Hp → Prop} (ra : Rows A eXattr h a l) (rb : Rows B eXattr h b l) (hn : l.length < 2 ^ 62) (k : Q true h) : slices_Equal_api_Xattr_api_Xattr a b Q h := by
  unfold slices_Equal_api_Xattr_api_Xattr
  rw [lens_eq ra rb rfl]
  exact if_false (eqloop_ (e := eXattr) (fun x => S_api_Xattr.eqb_iff.2 rfl) ra rb hn k)
theorem equalL_ {A B : Nat → Prop} {a b : Sl} {l : List S_api_Link} {Q : Bool → Hp → Prop} (ra : Rows A eLink h a l) (rb : Rows B eLink h b l) (hn : l.length < 2 ^ 62) (k : Q true h) : slices_Equal_api_Link_api_Link a b Q h := by
  unfold slices_Equal_api_Link_api_Link
  rw [lens_eq ra rb rfl]
  exact if_false (eqloop_ (e := eLink) (fun x => S_api_Link.eqb_iff.2 rfl) ra rb hn k)
theorem same1_ {A B : Nat → Prop} {x y : S_api_Inode} {m : InodeM} {Q : Bool → Hp → Prop} (dx : repI A h x m) (dy : repI B h y m) (hw : wI m < 2 ^ 60) (k : ∀ h', Ext h h' → Q true h') : facts_Same_1 x y Q h := by
  obtain ⟨x1, x2, x3, x4, x5, x6, x7⟩ := dx
  obtain ⟨y1, y2, y3, y4, y5, y6, y7⟩ := dy
  simp only [wI] at hw
  unfold facts_Same_1
  rw [x1, x2, x3, x4, x5, y1, y2, y3, y4, y5, S_api_Stamp.eqb_iff.2 rfl, S_api_Attr.eqb_iff.2 rfl, S_api_Size.eqb_iff.2 rfl, beq_self_eq_true, beq_self_eq_true]
  refine al_ .start fun b1 h2 f _ _ _ => al_ f fun b3 h4 f4 _ _ _ => j_ (if_true (if_true (if_true (if_true (if_true ?_)))))
  refine equalP_ (x6.ext f4.e0) (y6.ext f4.e0) (by omega) (kp_ f4 .refl (by simp) fun _ => if_true (equalX_ (x7.ext f4.e0) (y7.ext f4.e0) (by omega) (k _ f4.e0)))
theorem samen_ {A B : Nat → Prop} {x y : S_api_Inode} {m : InodeM} {Q : Bool → Hp → Prop} (dx : repI A h x m) (dy : repI B h y m) (hw : wI m < 2 ^ 60) (k : ∀ h', Ext h h' → Q true h') : crannogref10_SameNode x y Q h := by
  obtain ⟨x1, x2, x3, x4, x5, x6, x7⟩ := dx
  obtain ⟨y1, y2, y3, y4, y5, y6, y7⟩ := dy
  simp only [wI] at hw
  unfold crannogref10_SameNode
  rw [x1, x2, x3, x4, x5, y1, y2, y3, y4, y5, S_api_Stamp.eqb_iff.2 rfl, S_api_Attr.eqb_iff.2 rfl, S_api_Size.eqb_iff.2 rfl, bne_self_eq_false, bne_self_eq_false, lens_eq x6 y6 rfl, lens_eq x7 y7 rfl]
  refine al_ .start fun b1 h2 f _ _ _ => al_ f fun b3 h4 f4 _ _ _ => j_ (if_false (if_false (if_false (if_false (if_false (if_false (if_false ?_)))))))
  refine eqloop_ (e := ePiece) (fun x => S_api_Piece.eqb_iff.2 rfl) (x6.ext f4.e0) (y6.ext f4.e0) (by omega) ?_
  exact eqloop_ (e := eXattr) (fun x => S_api_Xattr.eqb_iff.2 rfl) (x7.ext f4.e0) (y7.ext f4.e0) (by omega) (k _ f4.e0)
theorem wI_mem {m : InodeM} {l : List InodeM} (h : m ∈ l) : wI m ≤ wsum wI l := by
  induction l with
  | nil => cases h
  | cons x l ih =>
    simp only [wsum, List.map_cons, List.sum_cons] at *
    rcases List.mem_cons.1 h with rfl | h
    · omega
    · have := ih h; omega
theorem fsame_ {A B : Nat → Prop} {x y : S_api_State} {m : StateM} {Q : Bool → Hp → Prop} (dx : repS A h x m) (dy : repS B h y m) (hw : wS m < 2 ^ 60) (k : ∀ h', Ext h h' → Q true h') : facts_Same x y Q h := by
  obtain ⟨x1, ⟨lx, x2, x3⟩, x4⟩ := dx
  obtain ⟨y1, ⟨ly, y2, y3⟩, y4⟩ := dy
  simp only [wS] at hw
  have e1 := x3.len
  have e2 := y3.len
  have e3 := x2.1
  unfold facts_Same
  rw [x1, y1, A8.eqb_iff.2 rfl]
  refine al_ .start fun b1 h2 f _ _ _ => al_ f fun b3 h4 f4 _ _ _ => j_ (if_true (equalL_ (x4.ext f4.e0) (y4.ext f4.e0) (by omega) (kp_ f4 .refl (by simp) fun _ => if_true ?_)))
  unfold slices_EqualFunc_api_Inode_api_Inode_api_Inode_api_Inode
  rw [lens_eq x2 y2 (by rw [e1, e2])]
  refine if_false (loop_ (fun q u h1 => ∃ i : Nat, i ≤ lx.length ∧ u = (i : Int) ∧ q = lx.length - i ∧ Fr h [] h1 h1) lx.length ⟨0, by omega, rfl, rfl, f4.base.drop (by simp)⟩ ?_)
  rintro q u h1 ⟨i, hi, rfl, rfl, f1⟩
  refine if_ (fun g => ?_) fun g => k _ f1.e0
  simp only [decide_eq_true_eq] at g
  have gx : lx[i]? = some (lx[i]'(by omega)) := by simp [show i < lx.length by omega]
  have gy : ly[i]? = some (ly[i]'(by omega)) := by simp [show i < ly.length by omega]
  generalize lx[i]'(by omega) = x at gx
  generalize ly[i]'(by omega) = y at gy
  obtain ⟨mi, gm, dx⟩ := x3.get gx
  obtain ⟨mj, gn, dy⟩ := y3.get gy
  rw [gm] at gn; cases gn
  have := wI_mem (List.mem_of_getElem? gm)
  refine ixlda (x2.ext f1.e0) rfl gx fun _ _ _ => al_ f1 fun b9 h10 f10 _ hb9 _ => st_ f10 (by simp) hb9 fun h11 f11 _ => ixlda (y2.ext f11.e0) rfl gy fun _ _ _ => al_ f11 fun b16 h17 f17 _ hb16 _ => st_ f17 (by simp) hb16 fun h18 f18 _ => ?_
  exact same1_ (DI.ext dx f18.e0) (DI.ext dy f18.e0) (by omega) fun h20 e20 => if_false ⟨lx.length - (i + 1), by omega, i + 1, by omega, by rw [wi (by omega) (by omega)]; rfl, rfl, (f18.ext e20).base.drop (by simp)⟩
theorem rsame_ {A B : Nat → Prop} {x y : S_api_State} {m : StateM} {Q : Bool → Hp → Prop} (dx : repS A h x m) (dy : repS B h y m) (hw : wS m < 2 ^ 60) (k : ∀ h', Ext h h' → Q true h') : crannogref10_Same x y Q h := by
  obtain ⟨x1, ⟨lx, x2, x3⟩, x4⟩ := dx
  obtain ⟨y1, ⟨ly, y2, y3⟩, y4⟩ := dy
  simp only [wS] at hw
  have e1 := x3.len
  have e2 := y3.len
  have e3 := x2.1
  unfold crannogref10_Same
  rw [x1, y1, A8.eqb_iff.2 rfl, lens_eq x4 y4 rfl, lens_eq x2 y2 (by rw [e1, e2])]
  refine al_ .start fun b1 h2 f _ _ _ => al_ f fun b3 h4 f4 _ _ _ => j_ (if_false (if_false (if_false ?_)))
  refine loop_ (fun q u h1 => ∃ i : Nat, i ≤ lx.length ∧ u = (i : Int) ∧ q = lx.length - i ∧ Fr h [b3, b1] h1 h1) lx.length ⟨0, by omega, rfl, rfl, f4.base⟩ ?_
  rintro q u h1 ⟨i, hi, rfl, rfl, f1⟩
  refine if_ (fun g => ?_) fun g => eqloop_ (e := eLink) (fun x => S_api_Link.eqb_iff.2 rfl) (x4.ext f1.e0) (y4.ext f1.e0) (by omega) (k _ f1.e0)
  simp only [decide_eq_true_eq] at g
  have gx : lx[i]? = some (lx[i]'(by omega)) := by simp [show i < lx.length by omega]
  have gy : ly[i]? = some (ly[i]'(by omega)) := by simp [show i < ly.length by omega]
  generalize lx[i]'(by omega) = x at gx
  generalize ly[i]'(by omega) = y at gy
  obtain ⟨mi, gm, dx⟩ := x3.get gx
  obtain ⟨mj, gn, dy⟩ := y3.get gy
  rw [gm] at gn; cases gn
  have := wI_mem (List.mem_of_getElem? gm)
  refine ixlda (x2.ext f1.e0) rfl gx fun _ _ _ => ixlda (y2.ext f1.e0) rfl gy fun _ _ _ => ?_
  exact samen_ (DI.ext dx f1.e0) (DI.ext dy f1.e0) (by omega) fun h20 e20 => kp_ f1 e20 (by simp) fun f20 => if_false ⟨lx.length - (i + 1), by omega, i + 1, by omega, by rw [wi (by omega) (by omega)]; rfl, rfl, f20.base⟩
/-! ### the example -/
theorem contains_ {A : Nat → Prop} {s : Sl} {l : List S_api_Event} {f : S_api_Event → (Bool → Hp → Prop) → Hp → Prop} {p : S_api_Event → Bool} {Q : Bool → Hp → Prop} (r : Rows A eEvent h s l) (hn : l.length < 2 ^ 62) (hf : ∀ x h' Q, Ext h h' → (∀ h'', Ext h' h'' → Q (p x) h'') → f x Q h')
    (k : ∀ h', Ext h h' → Q (l.any p) h') : slices_ContainsFunc_api_Event_api_Event s f Q h := by
  unfold slices_ContainsFunc_api_Event_api_Event slices_IndexFunc_api_Event_api_Event
  have hl := r.1
  refine loop_ (fun m u h1 => ∃ i : Nat, i ≤ l.length ∧ u = (i : Int) ∧ m = l.length - i ∧ Ext h h1 ∧ (l.drop i).any p = l.any p) l.length ⟨0, by omega, rfl, rfl, .refl, by simp⟩ ?_
  rintro m u h1 ⟨i, hi, rfl, rfl, e1, hd⟩
  refine if_ (fun g => ?_) fun g => ?_
  · simp only [decide_eq_true_eq] at g
    have hil : i < l.length := by omega
    have gx : l[i]? = some l[i] := by simp [hil]
    have hdd : l.drop i = l[i] :: l.drop (i + 1) := by simp
    generalize l[i] = x at gx hdd
    refine ixlda (r.ext e1) rfl gx fun _ _ _ => hf x h1 _ e1 fun h2 e2 => if_ (fun g2 => ?_) fun g2 => ?_
    · have := k h2 (e1.trans e2)
      rw [← hd, hdd, List.any_cons, g2, Bool.true_or] at this
      have e : decide ((i : Int) ≥ 0) = true := by simp
      show Q (decide ((i : Int) ≥ 0)) h2
      rw [e]; exact this
    · rw [hdd, List.any_cons, g2, Bool.false_or] at hd
      exact ⟨l.length - (i + 1), by omega, i + 1, by omega, by rw [wi (by omega) (by omega)]; rfl, rfl, e1.trans e2, hd⟩
  · simp only [decide_eq_false_iff_not] at g
    have : i = l.length := by omega
    subst this
    rw [List.drop_length] at hd
    have := k h1 e1
    rw [← hd] at this
    simpa using this
def exA : S_api_Event := ⟨⟨1, 0⟩, 0, ⟨0, 0, 0, 0, 0, 0, 0, 0⟩, ⟨⟨0, 0, 0, 0, 0, 0, 0, 0⟩, Sl.nil, Sl.nil⟩⟩
def exB : S_api_Event := ⟨⟨2, 1⟩, 0, ⟨1, 0, 0, 0, 0, 0, 0, 0⟩, ⟨⟨0, 0, 0, 0, 0, 0, 0, 0⟩, Sl.nil, Sl.nil⟩⟩
theorem alo_ {S : Type} {e : Elt S} {h0 hA : Hp} {bs : List Addr} {x : S} {K : Addr → Hp → Prop} (f : Fr h0 bs hA h) (k : ∀ b h', Fr h0 bs hA h' → Ext h h' → Own e h' (Sl.mk (some b) 1 1) [x] → b.block = h.size → b.off = 0 → b.spot = none → K b h') : Al h (e.cells x) K := fun T => by
  have ex : Ext h (h.push (.cells (e.cells x).toArray T)) := .push
  refine k _ _ (f.ext ex) ex ⟨rfl, .inr ⟨h.size, T, [], rfl, by simp, by simp, by simp⟩⟩ rfl rfl rfl
theorem pl0 {b : Addr} {sz : Nat} (h1 : b.off = 0) (h2 : b.spot = none) : Pl (Sl.mk (some b) 1 1) sz b 0 := ⟨b, rfl, by
  obtain ⟨c, o, s⟩ := b
  simp only at h1 h2
  subst h1; subst h2
  rw [Nat.zero_mul, flat_add]⟩
theorem row_sub {a : Addr} {cs ys : List Value} {off : Nat} (r : Row h a cs) (hs : ∀ (i : Nat) v, ys[i]? = some v → cs[off + i]? = some v) : Row h (a.add off) ys := fun i v hi => by
  rw [add_add]; exact r _ _ (hs i v hi)
def lastP (v x : S_api_Event) : Bool := !S_api_Stamp.eqb x.At v.At && !vHas v.Knew x.At
theorem last1_ {b : Addr} {v x : S_api_Event} {Q : Bool → Hp → Prop} (r : Row h b (S_api_Event.cells v)) (k : ∀ h', Ext h h' → Q (lastP v x) h') : model_Last_1 x b Q h := by
  unfold model_Last_1
  refine al_ .start fun b1 h2 f2 e2 hb1 _ => j_ ⟨v.At, row_sub (row_ag r f2.e0 (by simp)) (fun i w hi => ?_), if_ (fun g => ⟨v, row_ag r f2.e0 (by simp), before_ fun h12 e12 => ?_⟩) fun g => ?_⟩
  · match i, hi with
    | 0, hi => simpa [S_api_Stamp.cells, S_api_Event.cells] using hi
    | 1, hi => simpa [S_api_Stamp.cells, S_api_Event.cells] using hi
    | i + 2, hi => simp [S_api_Stamp.cells] at hi
  · have := k h12 (f2.e0.trans e12)
    simpa [lastP, g] using this
  · have := k h2 f2.e0
    simpa [lastP, g] using this
theorem last_ex {A : Nat → Prop} {s : Sl} {Q : S_api_Event × Bool → Hp → Prop} (r : Rows A eEvent h s [exA, exB]) (k : ∀ h', Ext h h' → Q (exB, true) h') : model_Last s Q h := by
  unfold model_Last
  have hl := r.1
  refine al_ .start fun b1 h2 f2 e2 hb1 _ => ?_
  refine loop_ (fun m u h1 => ∃ i : Nat, i < 2 ∧ u.1 = (i : Int) ∧ m = 2 - i ∧ Fr h [b1] h1 h1) 2 ⟨0, by omega, rfl, rfl, f2.base⟩ ?_
  rintro m ⟨u1, u2⟩ h5 ⟨i, hi, hu, rfl, f5⟩
  simp only at hu
  subst hu
  refine if_ (fun g => ?_) fun g => by simp [hl] at g; omega
  have gx : ([exA, exB] : List S_api_Event)[i]? = some (([exA, exB] : List S_api_Event)[i]'hi) := by simp [hi]
  have hp : [exA, exB].any (lastP ([exA, exB][i]'hi)) = decide (i = 0) := by
    match i, hi with
    | 0, _ => rfl
    | 1, _ => rfl
  have he : i = 1 → [exA, exB][i]'hi = exB := by rintro rfl; rfl
  generalize ([exA, exB] : List S_api_Event)[i]'hi = v at gx hp he
  refine ixlda (r.ext f5.e0) rfl gx fun _ _ _ => alo_ (e := eEvent) f5 fun b11 h12 f12 e12 o12 hb11 z1 z2 => kp_ f5 e12 (by simp) fun _ => own_st o12 (pl0 z1 z2) (by simp) fun h13 x13 o13 => ?_
  have c1 := (f5.b0 b1 (by simp)).2
  have g5 := f5.e0.size
  have e13 : Ext h h13 := f12.e0.over x13 fun j hj => by simp [Sl.blk] at hj; omega
  have f13 := f12.ag x13 fun j hj => by simp [Sl.blk] at hj; omega
  refine kpa_ f12 x13 (by simp) (fun b hb => by simp at hb; subst hb; simp [Sl.blk]; omega) ?_
  have r13 : ∀ h', Ext h13 h' → Row h' b11 (S_api_Event.cells v) := fun h' e => by
    obtain ⟨a, h1, _, h3⟩ := (o13.ext e).rows.2 0 v rfl
    cases h1
    have : b11.add 0 = b11 := by
      obtain ⟨c, o, s⟩ := b11
      simp only at z1 z2
      subst z1; subst z2
      rw [flat_add]
    rwa [Nat.zero_mul, this] at h3
  refine contains_ (p := lastP v) (r.ext e13) (by simp) (fun x h' Q e k => last1_ (r13 h' e) k) fun h15 e15 => kp_ f13 e15 (by simp) fun f15 => ?_
  rw [hp]
  refine if_ (fun g2 => ?_) fun g2 => ?_
  · have : i ≠ 0 := by simpa using g2
    have hv := he (by omega)
    subst hv
    exact ⟨exB, r13 _ e15, st0_ f15 (by simp) fun h18 f18 _ => k _ f18.e0⟩
  · have : i = 0 := by simpa using g2
    subst this
    exact ⟨1, by omega, 1, by omega, by rw [wi (by omega) (by omega)]; rfl, rfl, f15.base⟩
theorem awake_ {Q : Bool → Hp → Prop} (k : ∀ h', Ext h h' → Q true h') : crannoglaw22_awake Q h := by
  unfold crannoglaw22_awake
  refine al_ .start fun b1 h2 f2 _ hb1 _ => st_ f2 (by simp) hb1 fun h3 f3 _ => al_ f3 fun b4 h5 f5 _ hb4 _ => st_ f5 (by simp) hb4 fun h6 f6 _ => alv_ f6 fun b7 h8 f8 e8 r8 _ => kp_ f6 e8 (by simp) fun _ => ?_
  have r2 : Rows (· = b7.block) eEvent h8 (Sl.mk (some b7) 2 2) [exA, exB] := by
    refine ⟨rfl, fun i x hi => ⟨b7, rfl, rfl, ?_⟩⟩
    match i, hi with
    | 0, hi =>
      simp at hi; subst hi
      exact row_sub r8 fun j v hj => by
        have : j < 21 := (List.getElem?_eq_some_iff.1 hj).1
        rw [List.flatten_cons, List.getElem?_append_left (by simpa [S_api_Event.cells] using this)]
        simpa [eEvent, exA] using hj
    | 1, hi =>
      simp at hi; subst hi
      exact row_sub r8 fun j v hj => by
        have : j < 21 := (List.getElem?_eq_some_iff.1 hj).1
        rw [List.flatten_cons, List.getElem?_append_right (by simp [S_api_Event.cells, eEvent]), List.flatten_cons, List.getElem?_append_left (by simp [S_api_Event.cells, eEvent]; omega)]
        simpa [eEvent, exB, S_api_Event.cells] using hj
    | i + 2, hi => simp at hi
  refine last_ex r2 fun h10 e10 => kp_ f8 e10 (by simp) fun f10 => al_ f10 fun b11 h12 f12 _ hb11 _ => st_ f12 (by simp) hb11 fun h13 f13 _ => j_ ?_
  refine fold_ (m := []) ⟨[], Rows.nil, .nil⟩ (by simp [wL, wsum]) (by simp) fun r17 h18 e18 d18 => kp_ f13 e18 (by simp) fun f18 => empty_ fun r19 h20 e20 d20 => kp_ f18 e20 (by simp) fun f20 => ?_
  refine fsame_ (m := emptyM) (repS_ext d18 e20) d20 (by simp [wS, emptyM, wsum, wI, rootM]) fun h22 e22 => kp_ f20 e22 (by simp) fun f22 => if_true ?_
  refine before_ fun h25 e25 => kp_ f22 e25 (by simp) fun f25 => ?_
  refine if_ (fun _ => ?_) fun g => by simp [vHas, vIs, A8.at_, A8.toL] at g
  refine before_ fun h28 e28 => kp_ f25 e28 (by simp) fun f28 => ?_
  refine if_ (fun _ => if_true ?_) fun g => by simp [vHas, vIs, A8.at_, A8.toL] at g
  have := k _ f28.e0
  simpa [exB, S_api_Stamp.eqb] using this
end Go.Lf
namespace Go.Lf
open Go.Crn
variable {h : Hp}
def smS (m : StateM) : Prop := m.Nodes.length ≤ 120 ∧ m.Links.length ≤ 120 ∧ ∀ n ∈ m.Nodes, n.Pieces.length ≤ 120 ∧ n.Xattrs.length ≤ 120
theorem smS_w {m : StateM} (s : smS m) : wS m ≤ 40000 := by
  obtain ⟨h1, h2, h3⟩ := s
  have : ∀ l : List InodeM, (∀ n ∈ l, n.Pieces.length ≤ 120 ∧ n.Xattrs.length ≤ 120) → wsum wI l ≤ 240 * l.length := by
    intro l
    induction l with
    | nil => simp [wsum]
    | cons x l ih =>
      intro h
      have a := h x (by simp)
      have b := ih fun n hn => h n (by simp [hn])
      simp only [wsum, List.map_cons, List.sum_cons, List.length_cons, wI] at *
      omega
  have := this m.Nodes h3
  simp only [wS]; omega
theorem small1_ {A : Nat → Prop} {x : S_api_State} {m : StateM} {Q : Bool → Hp → Prop} (d : repS A h x m) (k : ∀ b h', Ext h h' → (b = true → smS m) → Q b h') : crannogplain_Small x Q h := by
  obtain ⟨x1, ⟨lx, x2, x3⟩, x4⟩ := d
  have e1 := x3.len
  have e3 := x2.1
  have e4 := x4.1
  unfold crannogplain_Small
  have no : ∀ {h'}, Ext h h' → Q false h' := fun e => k _ _ e (by simp)
  refine al_ .start fun b1 h2 f2 _ _ _ => ?_
  refine ⟨fun b h5 => Fr h [b1] h5 h5 ∧ (b = false → lx.length ≤ 120 ∧ m.Links.length ≤ 120), ?_, ?_⟩
  · rintro b h5 ⟨f5, hb⟩
    refine if_ (fun _ => no f5.e0) fun g => ?_
    obtain ⟨n1, n2⟩ := hb g
    refine loop_ (fun q u h1 => ∃ i : Nat, i ≤ lx.length ∧ u.2 = (i : Int) ∧ q = lx.length - i ∧ Fr h [b1] h1 h1 ∧ ∀ n ∈ m.Nodes.take i, n.Pieces.length ≤ 120 ∧ n.Xattrs.length ≤ 120) lx.length ⟨0, by omega, rfl, rfl, f5, by simp⟩ ?_
    rintro q ⟨u1, u2⟩ h8 ⟨i, hi, hu, rfl, f8, hp⟩
    simp only at hu
    subst hu
    refine if_ (fun g => ?_) fun g => ?_
    · simp only [decide_eq_true_eq] at g
      have gx : lx[i]? = some (lx[i]'(by omega)) := by simp [show i < lx.length by omega]
      generalize lx[i]'(by omega) = x at gx
      obtain ⟨mi, gm, dx⟩ := x3.get gx
      have hst : m.Nodes.take (i + 1) = m.Nodes.take i ++ [mi] := by rw [List.take_add_one, gm]; rfl
      have p1 := dx.2.2.2.2.2.1
      have p2 := dx.2.2.2.2.2.2
      have q1 := p1.1
      have q2 := p2.1
      refine ixlda (x2.ext f8.e0) rfl gx fun _ _ _ => al_ f8 fun b14 h15 f15 _ hb14 _ => st_ f15 (by simp) hb14 fun h16 f16 _ => ?_
      refine ⟨fun b h19 => Fr h [b1] h19 h19 ∧ (b = false → mi.Pieces.length ≤ 120 ∧ mi.Xattrs.length ≤ 120), ?_, ?_⟩
      · rintro b h19 ⟨f19, hb⟩
        refine if_ (fun _ => no f19.e0) fun g => ?_
        obtain ⟨r1, r2⟩ := hb g
        refine loop_ (fun q u h1 => ∃ j : Nat, j ≤ mi.Pieces.length ∧ u.2 = (j : Int) ∧ q = mi.Pieces.length - j ∧ Fr h [b1] h1 h1) mi.Pieces.length ⟨0, by omega, rfl, rfl, f19⟩ ?_
        rintro q ⟨u1, u2⟩ h22 ⟨j, hj, hu, rfl, f22⟩
        simp only at hu
        subst hu
        refine if_ (fun g => ?_) fun g => ?_
        · simp only [decide_eq_true_eq] at g
          have gy : mi.Pieces[j]? = some (mi.Pieces[j]'(by omega)) := by simp [show j < mi.Pieces.length by omega]
          generalize mi.Pieces[j]'(by omega) = y at gy
          refine ixlda (p1.ext f22.e0) rfl gy fun _ _ _ => al_ f22 fun b28 h29 f29 _ hb28 _ => st_ f29 (by simp) hb28 fun h30 f30 _ => ?_
          exact ⟨mi.Pieces.length - (j + 1), by omega, j + 1, by omega, by simp only; rw [wi (by omega) (by omega)]; rfl, rfl, f30.base.drop (by simp)⟩
        · refine loop_ (fun q u h1 => ∃ j : Nat, j ≤ mi.Xattrs.length ∧ u.2 = (j : Int) ∧ q = mi.Xattrs.length - j ∧ Fr h [b1] h1 h1) mi.Xattrs.length ⟨0, by omega, rfl, rfl, f22⟩ ?_
          rintro q ⟨u1, u2⟩ h33 ⟨j, hj, hu, rfl, f33⟩
          simp only at hu
          subst hu
          refine if_ (fun g => ?_) fun g => ?_
          · simp only [decide_eq_true_eq] at g
            have gy : mi.Xattrs[j]? = some (mi.Xattrs[j]'(by omega)) := by simp [show j < mi.Xattrs.length by omega]
            generalize mi.Xattrs[j]'(by omega) = y at gy
            refine ixlda (p2.ext f33.e0) rfl gy fun _ _ _ => al_ f33 fun b28 h29 f29 _ hb28 _ => st_ f29 (by simp) hb28 fun h30 f30 _ => ?_
            exact ⟨mi.Xattrs.length - (j + 1), by omega, j + 1, by omega, by simp only; rw [wi (by omega) (by omega)]; rfl, rfl, f30.base.drop (by simp)⟩
          · refine if_ (fun _ => no f33.e0) fun _ => ?_
            refine ⟨lx.length - (i + 1), by omega, i + 1, by omega, by simp only; rw [wi (by omega) (by omega)]; rfl, rfl, f33, ?_⟩
            rw [hst]
            intro n hn
            rcases List.mem_append.1 hn with hn | hn
            · exact hp n hn
            · simp at hn; subst hn; exact ⟨r1, r2⟩
      · refine if_ (fun g => ⟨f16.base.drop (by simp), by simp⟩) fun g => ⟨f16.base.drop (by simp), fun g2 => ?_⟩
        simp only [decide_eq_false_iff_not] at g g2
        omega
    · simp only [decide_eq_false_iff_not] at g
      have : i = lx.length := by omega
      subst this
      rw [List.take_of_length_le (by omega)] at hp
      refine loop_ (fun q u h1 => ∃ j : Nat, j ≤ m.Links.length ∧ u.2 = (j : Int) ∧ q = m.Links.length - j ∧ Fr h [b1] h1 h1) m.Links.length ⟨0, by omega, rfl, rfl, f8⟩ ?_
      rintro q ⟨u1, u2⟩ h33 ⟨j, hj, hu, rfl, f33⟩
      simp only at hu
      subst hu
      refine if_ (fun g => ?_) fun g => k true _ f33.e0 fun _ => ⟨by omega, n2, hp⟩
      simp only [decide_eq_true_eq] at g
      have gy : m.Links[j]? = some (m.Links[j]'(by omega)) := by simp [show j < m.Links.length by omega]
      generalize m.Links[j]'(by omega) = y at gy
      refine ixlda (x4.ext f33.e0) rfl gy fun _ _ _ => al_ f33 fun b28 h29 f29 _ hb28 _ => st_ f29 (by simp) hb28 fun h30 f30 _ => ?_
      refine if_ (fun _ => no f30.e0) fun _ => ?_
      exact ⟨m.Links.length - (j + 1), by omega, j + 1, by omega, by simp only; rw [wi (by omega) (by omega)]; rfl, rfl, f30.base.drop (by simp)⟩
  · refine if_ (fun g => ⟨f2.base, by simp⟩) fun g => ⟨f2.base, fun g2 => ?_⟩
    simp only [decide_eq_false_iff_not] at g g2
    omega
def smL (l : List EventM) : Prop := l.length ≤ 60 ∧ ∀ e ∈ l, smS e.Delta
theorem smL_w {l : List EventM} (s : smL l) : wL l ≤ 2400000 := by
  obtain ⟨h1, h2⟩ := s
  have : ∀ l : List EventM, (∀ e ∈ l, smS e.Delta) → wL l ≤ 40000 * l.length := by
    intro l
    induction l with
    | nil => simp [wL, wsum]
    | cons x l ih =>
      intro h
      have a := smS_w (h x (by simp))
      have b := ih fun n hn => h n (by simp [hn])
      simp only [wL, wsum, List.map_cons, List.sum_cons, List.length_cons] at *
      omega
  have := this l h2
  omega
theorem small_ {A : Nat → Prop} {a0 : Sl} {ss : List Sl} {ms : List (List EventM)} {Q : Bool → Hp → Prop} (ra : Rows A eSl h a0 ss) (d : F2 (fun s m => repL h s m) ss ms) (hn : ss.length ≤ 100) (k : ∀ b h', Ext h h' → (b = true → ∀ m ∈ ms, smL m) → Q b h') : crannoglaw22_small a0 Q h := by
  unfold crannoglaw22_small
  have hl := ra.1
  have hlm := d.len
  have no : ∀ {h'}, Ext h h' → Q false h' := fun e => k _ _ e (by simp)
  refine loop_ (fun q u h1 => ∃ i : Nat, i ≤ ss.length ∧ u.2 = (i : Int) ∧ q = ss.length - i ∧ 0 ≤ u.1 ∧ u.1 ≤ 60 ∧ Fr h [] h1 h1 ∧ ∀ m ∈ ms.take i, smL m) ss.length ⟨0, by omega, rfl, rfl, by omega, by omega, .start, by simp⟩ ?_
  rintro q ⟨u1, u2⟩ h3 ⟨i, hi, hu, rfl, hu1, hu2, f3, hp⟩
  simp only at hu hu1 hu2
  subst hu
  refine if_ (fun g => ?_) fun g => ?_
  · simp only [decide_eq_true_eq] at g
    have gx : ss[i]? = some (ss[i]'(by omega)) := by simp [show i < ss.length by omega]
    generalize ss[i]'(by omega) = s at gx
    obtain ⟨m, gm, ds⟩ := d.get gx
    have hst : ms.take (i + 1) = ms.take i ++ [m] := by rw [List.take_add_one, gm]; rfl
    obtain ⟨l, r1, r2⟩ := ds
    have hll := r1.1
    have hlm2 := r2.len
    refine ix_ (ra.ext f3.e0) rfl gx fun p _ rp => row_ld rp ?_
    have hmin : 0 ≤ iMin (s.len : Int) 61 ∧ iMin (s.len : Int) 61 ≤ 61 ∧ (iMin (s.len : Int) 61 ≤ 60 → (s.len : Int) ≤ 60) := by unfold iMin; split <;> omega
    have hw : IntKind.wrap .i64 (u1 + iMin (s.len : Int) 61) = u1 + iMin (s.len : Int) 61 := wi (by omega) (by omega)
    rw [hw]
    refine if_ (fun _ => no f3.e0) fun g2 => ?_
    simp only [decide_eq_false_iff_not] at g2
    have hln : l.length ≤ 60 := by omega
    refine loop_ (fun q u h1 => ∃ j : Nat, j ≤ l.length ∧ u = (j : Int) ∧ q = l.length - j ∧ Fr h [] h1 h1 ∧ ∀ e ∈ m.take j, smS e.Delta) l.length ⟨0, by omega, rfl, rfl, f3, by simp⟩ ?_
    rintro q u h11 ⟨j, hj, rfl, rfl, f11, hq⟩
    refine if_ (fun g3 => ?_) fun g3 => ?_
    · simp only [decide_eq_true_eq] at g3
      have gy : l[j]? = some (l[j]'(by omega)) := by simp [show j < l.length by omega]
      generalize l[j]'(by omega) = y at gy
      obtain ⟨my, gn, dy⟩ := r2.get gy
      have hsu : m.take (j + 1) = m.take j ++ [my] := by rw [List.take_add_one, gn]; rfl
      refine ixlda (r1.ext f11.e0) rfl gy fun _ _ _ => al_ f11 fun b17 h18 f18 _ hb17 _ => st_ f18 (by simp) hb17 fun h19 f19 _ => ?_
      refine ⟨fun b h22 => Fr h [] h22 h22 ∧ (b = false → smS my.Delta), ?_, ?_⟩
      · rintro b h22 ⟨f22, hb⟩
        refine if_ (fun _ => no f22.e0) fun g4 => ⟨l.length - (j + 1), by omega, j + 1, by omega, by rw [wi (by omega) (by omega)]; rfl, rfl, f22, ?_⟩
        rw [hsu]
        intro n hn
        rcases List.mem_append.1 hn with hn | hn
        · exact hq n hn
        · simp at hn; subst hn; exact hb g4
      · refine small1_ (repS_ext dy.2.2.2 f19.e0) fun b h24 e24 hb => kp_ f19 e24 (by simp) fun f24 => ?_
        have fd := f24.base.drop (bs' := []) (by simp)
        refine if_ (fun g4 => ⟨fd, by simp⟩) fun g4 => if_ (fun _ => ⟨fd, by simp⟩) fun _ => ⟨fd, fun _ => hb (by simpa using g4)⟩
    · simp only [decide_eq_false_iff_not] at g3
      have : j = l.length := by omega
      subst this
      rw [List.take_of_length_le (by omega)] at hq
      refine ⟨ss.length - (i + 1), by omega, i + 1, by omega, by simp only; rw [wi (by omega) (by omega)]; rfl, rfl, by simp only; omega, by simp only; omega, f11, ?_⟩
      rw [hst]
      intro n hn
      rcases List.mem_append.1 hn with hn | hn
      · exact hp n hn
      · simp at hn; subst hn; exact ⟨by omega, hq⟩
  · simp only [decide_eq_false_iff_not] at g
    have : i = ss.length := by omega
    subst this
    rw [List.take_of_length_le (by omega)] at hp
    exact k true _ f3.e0 fun _ => hp
end Go.Lf
namespace Go.Lf
open Go.Crn
variable {h : Hp}
theorem wu {i : Int} (h0 : 0 ≤ i) (h1 : i < 2 ^ 64) : IntKind.wrap .u64 i = i := by
  simp [IntKind.wrap, IntKind.bits, IntKind.signed]
  omega
theorem wu0 (i : Int) : 0 ≤ IntKind.wrap .u64 i := by
  simp [IntKind.wrap, IntKind.bits, IntKind.signed]
  omega
theorem rows1s {b1 : Addr} {a : Sl} (r2 : Row h b1 [Sl.enc a]) : Rows (· = b1.block) eSl h (Sl.mk (some b1) 1 1) [a] := rows1 (e := eSl) r2
theorem repE_ext' {h' : Hp} {x : S_api_Event} {m : EventM} (r : repE (· < h.size) h x m) (e : Ext h h') : repE (· < h'.size) h' x m :=
  ⟨r.1, r.2.1, r.2.2.1, repS_weak (repS_ext r.2.2.2 e) fun _ hi => Nat.lt_of_lt_of_le hi e.size⟩
/-- one more event at the end of a list of one's own -/
theorem evApp_ {h1 : Hp} {u : Sl} {x : S_api_Event} {mx : EventM} {lx : List S_api_Event} {lk : List EventM} {K : Sl → Hp → Prop} (e1 : Ext h h1) (o : Own eEvent h1 u lx) (b : ∀ i ∈ u.blk, h.size ≤ i) (d : F2 (repE (· < h.size) h) lx lk) (dx : repE (· < h.size) h x mx) (hn : lx.length < 2 ^ 30)
    (k : ∀ s' h', Ext h h' → Own eEvent h' s' (lx ++ [x]) → (∀ i ∈ s'.blk, h.size ≤ i) → F2 (repE (· < h.size) h) (lx ++ [x]) (lk ++ [mx]) → K s' h') :
    Al h1 (List.flatten [S_api_Event.cells x]) fun b22 h23 => AppS h23 u (Sl.mk (some b22) 1 1) 21 200 fun v24 h25 => K v24 h25 := by
  have f1 : Fr h [] h1 h1 := ⟨e1, by simp, .refl⟩
  refine alv_ f1 fun b22 h23 f23 e23 r23 hb22 => ?_
  rw [List.flatten_singleton] at r23
  refine app1_ (e := eEvent) (o.ext e23) r23 (by omega) (by omega) fun s' h25 x25 o25 b25 => k s' h25 (f23.e0.over x25 b) o25 (fun i hi => ?_) (F2.app d (.cons dx .nil))
  have := f23.e0.size
  rcases b25 i hi with h | h
  · exact b i h
  · omega
theorem modelOrder_ {A : Nat → Prop} {a0 a1 : Sl} {l : List EventM} {lo : List Int} {Q : Bool → Hp → Prop} (r : repL h a0 l) (ro : Rows A eInt h a1 lo) (k : ∀ h', Ext h h' → Q true h') : crannoglaw22_ModelOrder a0 a1 Q h := by
  unfold crannoglaw22_ModelOrder
  obtain ⟨xl, r1, r2⟩ := id r
  have e1 := r1.1
  have e2 := r2.len
  have e3 := ro.1
  have aw : ∀ {h'}, Ext h h' → crannoglaw22_awake Q h' := fun e => awake_ fun h6 e6 => k _ (e.trans e6)
  refine ⟨fun b h3 => Ext h h3 ∧ (b = false → smL l ∧ lo.length ≤ 100), ?_, ?_⟩
  · rintro b h3 ⟨x3, hb⟩
    refine if_ (fun _ => aw x3) fun g => ?_
    obtain ⟨sm, n2⟩ := hb g
    have n1 := sm.1
    refine loop_ (fun q u h1 => ∃ (i : Nat) (lx : List S_api_Event) (lk : List EventM), i ≤ lo.length ∧ u.2 = (i : Int) ∧ q = lo.length - i ∧ Ext h h1 ∧ Own eEvent h1 u.1 lx ∧ (∀ j ∈ u.1.blk, h.size ≤ j) ∧ F2 (repE (· < h.size) h) lx lk ∧ lx.length ≤ i ∧ ∀ e ∈ lk, e ∈ l) lo.length
      ⟨0, [], [], by omega, rfl, rfl, x3, .nil, by simp [Sl.blk, Sl.nil], .nil, by simp, by simp⟩ ?_
    rintro q ⟨u1, u2⟩ h8 ⟨i, lx, lk, hi, hu, rfl, x8, o8, b8, d8, hlx, hlk⟩
    simp only at hu o8 b8
    subst hu
    refine if_ (fun g => ?_) fun g => ?_
    · simp only [decide_eq_true_eq] at g
      have gx : lo[i]? = some (lo[i]'(by omega)) := by simp [show i < lo.length by omega]
      generalize lo[i]'(by omega) = v at gx
      refine ⟨fun s h12 => ∃ (lx : List S_api_Event) (lk : List EventM), Ext h h12 ∧ Own eEvent h12 s lx ∧ (∀ j ∈ s.blk, h.size ≤ j) ∧ F2 (repE (· < h.size) h) lx lk ∧ lx.length ≤ i + 1 ∧ ∀ e ∈ lk, e ∈ l, ?_, ?_⟩
      · rintro s h12 ⟨lx, lk, x12, o12, b12, d12, hlx, hlk⟩
        exact ⟨lo.length - (i + 1), by omega, i + 1, lx, lk, by omega, by simp only; rw [wi (by omega) (by omega)]; rfl, rfl, x12, o12, b12, d12, hlx, hlk⟩
      · refine ix_ (ro.ext x8) rfl gx fun p _ rp => row_ld (enc := Value.int .i64) rp ?_
        refine if_ (fun g2 => ?_) fun g2 => ⟨lx, lk, x8, o8, b8, d8, by omega, hlk⟩
        simp only [decide_eq_true_eq] at g2
        have hw1 : IntKind.wrap .u64 (a0.len : Int) = (a0.len : Int) := wu (by omega) (by omega)
        have hw0 : 0 ≤ IntKind.wrap .u64 v := wu0 v
        rw [hw1]
        have hm0 : 0 ≤ Int.tmod (IntKind.wrap .u64 v) (a0.len : Int) := Int.tmod_nonneg _ hw0
        have hm1 : Int.tmod (IntKind.wrap .u64 v) (a0.len : Int) < (a0.len : Int) := Int.tmod_lt_of_pos _ (by omega)
        generalize Int.tmod (IntKind.wrap .u64 v) (a0.len : Int) = w at hm0 hm1
        obtain ⟨n, rfl⟩ := Int.eq_ofNat_of_zero_le hm0
        have gy : xl[n]? = some (xl[n]'(by omega)) := by simp [show n < xl.length by omega]
        generalize xl[n]'(by omega) = y at gy
        obtain ⟨my, gm, dy⟩ := r2.get gy
        refine ⟨by omega, ixlda (r1.ext x8) (wi (by omega) (by omega)) gy fun _ _ _ => ?_⟩
        refine evApp_ x8 o8 b8 d8 dy (by omega) fun s' h25 x25 o25 b25 d25 => ⟨lx ++ [y], lk ++ [my], x25, o25, b25, d25, by simp; omega, fun e he => ?_⟩
        rcases List.mem_append.1 he with he | he
        · exact hlk e he
        · simp at he; subst he; exact List.mem_of_getElem? gm
    · have f8 : Fr h [] h8 h8 := ⟨x8, by simp, .refl⟩
      refine alv_ f8 fun b26 h27 f27 e27 r27 hb26 => ?_
      have o27 := o8.ext e27
      have rl : repL h27 u1 lk := ⟨lx, o27.rows.weak fun i hi => o27.lt i hi, d8.imp fun _ _ _ hr => repE_ext' hr f27.e0⟩
      refine small_ (ms := [lk]) (rows1s r27) (.cons rl .nil) (by simp) fun s h29 e29 hs => if_ (fun _ => aw (f27.e0.trans e29)) fun g3 => ?_
      have smk := hs (by simpa using g3) lk (by simp)
      have nk := smk.1
      have elk := d8.len
      have hw : IntKind.wrap .i64 ((a0.len : Int) - 1) = (a0.len : Int) - 1 := wi (by omega) (by omega)
      rw [hw]
      refine loop_ (fun q u h1 => ∃ (i : Nat) (lx : List S_api_Event) (lk : List EventM), i ≤ xl.length ∧ u.2 = (i : Int) - 1 ∧ q = i ∧ Ext h h1 ∧ Own eEvent h1 u.1 lx ∧ (∀ j ∈ u.1.blk, h.size ≤ j) ∧ F2 (repE (· < h.size) h) lx lk ∧ lx.length + i ≤ 200 ∧ (∀ e ∈ lk, e ∈ l) ∧ (∀ e ∈ l.drop i, e ∈ lk)) xl.length
        ⟨xl.length, lx, lk, by omega, by simp only; omega, rfl, f27.e0.trans e29, o27.ext e29, b8, d8, by omega, hlk, by rw [e2, List.drop_length]; simp⟩ ?_
      rintro q ⟨v1, v2⟩ h34 ⟨i, lx, lk, hi, hu, rfl, x34, o34, b34, d34, hlx, hlk, hdr⟩
      simp only at hu o34 b34
      subst hu
      refine if_ (fun g => ?_) fun g => ?_
      · simp only [decide_eq_true_eq] at g
        obtain ⟨n, rfl⟩ : ∃ n, q = n + 1 := ⟨q - 1, by omega⟩
        have gy : xl[n]? = some (xl[n]'(by omega)) := by simp [show n < xl.length by omega]
        generalize xl[n]'(by omega) = y at gy
        obtain ⟨my, gm, dy⟩ := r2.get gy
        refine ixlda (r1.ext x34) (n := n) (by omega) gy fun _ _ _ => ?_
        refine evApp_ x34 o34 b34 d34 dy (by omega) fun s' h25 x25 o25 b25 d25 => ⟨n, by omega, n, lx ++ [y], lk ++ [my], by omega, by simp only; rw [wi (by omega) (by omega)]; omega, rfl, x25, o25, b25, d25, by simp; omega, fun e he => ?_, fun e he => ?_⟩
        · rcases List.mem_append.1 he with he | he
          · exact hlk e he
          · simp at he; subst he; exact List.mem_of_getElem? gm
        · have hd : l.drop n = my :: l.drop (n + 1) := by
            obtain ⟨hn, hv⟩ := List.getElem?_eq_some_iff.1 gm
            rw [← hv]; simp
          rw [hd] at he
          rcases List.mem_cons.1 he with rfl | he
          · simp
          · exact List.mem_append_left _ (hdr e he)
      · simp only [decide_eq_false_iff_not] at g
        have : q = 0 := by omega
        subst this
        have hset : ∀ e, e ∈ lk ↔ e ∈ l := fun e => ⟨hlk e, fun he => hdr e (by simpa using he)⟩
        have hlen := d34.len
        have rl : repL h34 v1 lk := ⟨lx, o34.rows.weak fun i hi => o34.lt i hi, d34.imp fun _ _ _ hr => repE_ext' hr x34⟩
        have wl : ∀ j : List EventM, (∀ e ∈ j, e ∈ l) → wL j ≤ 40000 * j.length := by
          intro j
          induction j with
          | nil => simp [wL, wsum]
          | cons x j ih =>
            intro h
            have a := smS_w (sm.2 x (h x (by simp)))
            have b := ih fun n hn => h n (by simp [hn])
            simp only [wL, wsum, List.map_cons, List.sum_cons, List.length_cons] at *
            omega
        have w1 := wl lk hlk
        have w2 := wl l fun _ h => h
        have wf := wFold l
        refine j_ (fold_ rl (by omega) (by omega) fun r47 h48 e48 d48 => fold_ (repL_ext r (x34.trans e48)) (by omega) (by omega) fun r49 h50 e50 d50 => ?_)
        rw [mFold_set hset] at d48
        exact rsame_ (repS_ext d48 e50) d50 (by omega) fun h52 e52 => if_true (awake_ fun h55 e55 => k _ ((((x34.trans e48).trans e50).trans e52).trans e55))
  · refine alv_ .start fun b56 h57 f57 e57 r57 hb => small_ (ms := [l]) (rows1s r57) (.cons (repL_ext r e57) .nil) (by simp) fun s h59 e59 hs => if_ (fun g => ⟨e57.trans e59, by simp⟩) fun g => ⟨e57.trans e59, fun g2 => ?_⟩
    simp only [decide_eq_false_iff_not] at g2
    exact ⟨hs (by simpa using g) l (by simp), by omega⟩
end Go.Lf
namespace Go.Proofs.Ytnnlipkoedbnfaa
open Go.ChangeShapes Go.WideShapes Go.ChangeAt Go.RowKit Go.Lf Go.Crn Go.Proofs.L
/-! ## what came in, as data -/
theorem f2_of {S M : Type} {R : S → M → Prop} {P : M → Prop} : ∀ {l : List S}, (∀ x ∈ l, ∃ m, R x m ∧ P m) → ∃ ms, F2 R l ms ∧ ∀ m ∈ ms, P m
  | [], _ => ⟨[], .nil, by simp⟩
  | x :: l, h => by
    obtain ⟨m, h1, h2⟩ := h x (by simp)
    obtain ⟨ms, h3, h4⟩ := f2_of (l := l) fun y hy => h y (by simp [hy])
    exact ⟨m :: ms, .cons h1 h3, fun z hz => by
      rcases List.mem_cons.1 hz with rfl | hz
      · exact h2
      · exact h4 z hz⟩
theorem inode_of {h : Hp} {x : S_api_Inode} (r : R55 h x) : ∃ m, repI (· < h.size) h x m ∧ True := by
  obtain ⟨_, _, _, _, _, ⟨_, _, lp, h2, h3⟩, ⟨_, _, lx, h4, h5⟩⟩ := r
  exact ⟨⟨x.Id, x.Kind, x.Text, x.Attr, x.Size, lp, lx⟩, ⟨rfl, rfl, rfl, rfl, rfl, h2, h4⟩, trivial⟩
theorem state_of {h : Hp} {x : S_api_State} (r : R33 h x) : ∃ m, repS (· < h.size) h x m := by
  obtain ⟨_, ⟨_, _, ln, h2, h3⟩, ⟨_, _, ll, h4, h5⟩⟩ := r
  obtain ⟨ms, h6, h7⟩ := f2_of fun y hy => inode_of (h3 y hy)
  exact ⟨⟨x.Seen, ms, ll⟩, rfl, ⟨ln, h2, h6⟩, h4⟩
theorem event_of {h : Hp} {x : S_api_Event} (r : R35 h x) : ∃ m, repE (· < h.size) h x m ∧ True := by
  obtain ⟨_, _, _, h1⟩ := r
  obtain ⟨m, h2⟩ := state_of h1
  exact ⟨⟨x.At, x.Vol, x.Knew, m⟩, ⟨rfl, rfl, rfl, h2⟩, trivial⟩
theorem events_of {h : Hp} {s : Sl} (r : R22 h s) : ∃ l, repL h s l := by
  obtain ⟨_, _, l, h2, h3⟩ := r
  obtain ⟨ms, h6, h7⟩ := f2_of fun y hy => event_of (h3 y hy)
  exact ⟨ms, l, h2, h6⟩
theorem own : ownKnob Try.prog.godebug = none := by kernel_rfl
theorem laidOut : laidOutB Try.prog = true := by kernel_rfl
/-- what a walk gives is what the row asks -/
theorem close {H : Type} {enc : TypeId × Value → H} {f : FuncId} {fn : Func} {s : ChangeSpec} {W : World} {args : Array Value} {ds gs : List (DataW H)} {before : List MemPlace}
    (hc : CallsH Try.prog f args W.heap (Rt Value.bool fun r h' => r = true ∧ Ext W.heap h')) (ht : fn.params.toList.all (fun t => Try.prog.readableRec t && decide (t < Try.prog.types.size)) = true) (hv : s.vars = [])
    (hW : DataW.Whole enc Try.prog fn.params.toList s.vars false W args.toList ds gs before) (hfn : s.fn H (ds ++ gs) = { results := [.lit (.bool true)], args := ds }) (hrt : fn.resultTypes = #[4]) :
    Calls Try.prog f args W fun e W' => ∃ v, e = .returned v ∧ s.post enc Try.prog fn false true false false W args v W' := by
  refine (hc W rfl).mono ?_
  rintro e W' ⟨st, r, rfl, rfl, hx⟩
  exact ⟨_, rfl, post_law laidOut (fun t h => by have := List.all_eq_true.1 ht t h; simpa using this) hv hW hfn hrt Try.underlying4 hx st.os st.output⟩
end Go.Proofs.Ytnnlipkoedbnfaa
