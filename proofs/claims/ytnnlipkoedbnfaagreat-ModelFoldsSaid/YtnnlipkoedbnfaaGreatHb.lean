/- The program's and the reference's functions by their formulas; rows as lattices; the laws. -/
import Derived.Test.YtnnlipkoedbnfaaGreatHa
import Derived.Test.YtnnlipkoedbnfaaGreatTla
import Derived.Test.YtnnlipkoedbnfaaGreatTlb
import Derived.Test.YtnnlipkoedbnfaaGreatTlc
import Derived.Test.YtnnlipkoedbnfaaGreatTf
import Derived.Test.YtnnlipkoedbnfaaGreatRows
set_option linter.unusedVariables false
namespace Go.Lf
open Go.Crn
/-! ## the rows of a state, as lattices -/
theorem Ord3.cAttr : Ord3 cAttr := Ord3.lex (S := S_api_Attr) (c := fun x y => cStamp x.At y.At) (d := fun x y => [cI x.Mode y.Mode, cI x.Time y.Time]) (Ord3.stamp.comap S_api_Attr.At) (Ord3.lex (S := S_api_Attr) (c := fun x y => cI x.Mode y.Mode) (d := fun x y => [cI x.Time y.Time]) (Ord3.int.comap S_api_Attr.Mode) (Ord3.orL1 (S := S_api_Attr) (c := fun x y => cI x.Time y.Time) (Ord3.int.comap S_api_Attr.Time)))
theorem Ord3.cSize : Ord3 cSize := Ord3.lex (S := S_api_Size) (c := fun x y => cStamp x.At y.At) (d := fun x y => [cI x.N y.N]) (Ord3.stamp.comap S_api_Size.At) (Ord3.orL1 (S := S_api_Size) (c := fun x y => cI x.N y.N) (Ord3.int.comap S_api_Size.N))
theorem Ord3.cPiece : Ord3 cPiece := Ord3.lex (S := S_api_Piece) (c := fun x y => cStamp x.At y.At) (d := fun x y => [cS x.Data y.Data]) (Ord3.stamp.comap S_api_Piece.At) (Ord3.orL1 (S := S_api_Piece) (c := fun x y => cS x.Data y.Data) (Ord3.str.comap S_api_Piece.Data))
theorem Ord3.cXattr : Ord3 cXattr := Ord3.lex (S := S_api_Xattr) (c := fun x y => cStamp x.At y.At) (d := fun x y => [cI (flagI x.Gone) (flagI y.Gone), cS x.Val y.Val]) (Ord3.stamp.comap S_api_Xattr.At) (Ord3.lex (S := S_api_Xattr) (c := fun x y => cI (flagI x.Gone) (flagI y.Gone)) (d := fun x y => [cS x.Val y.Val]) (Ord3.int.comap fun x => flagI (S_api_Xattr.Gone x)) (Ord3.orL1 (S := S_api_Xattr) (c := fun x y => cS x.Val y.Val) (Ord3.str.comap S_api_Xattr.Val)))
theorem Ord3.cPlace : Ord3 cPlace := Ord3.lex (S := S_api_Link) (c := fun x y => cStamp x.At y.At) (d := fun x y => [cStamp x.Parent y.Parent, cS x.Name y.Name]) (Ord3.stamp.comap S_api_Link.At) (Ord3.lex (S := S_api_Link) (c := fun x y => cStamp x.Parent y.Parent) (d := fun x y => [cS x.Name y.Name]) (Ord3.stamp.comap S_api_Link.Parent) (Ord3.orL1 (S := S_api_Link) (c := fun x y => cS x.Name y.Name) (Ord3.str.comap S_api_Link.Name)))
theorem cPiece_eq {a b : S_api_Piece} : cPiece a b = 0 ↔ a.At = b.At ∧ a.Data = b.Data := by unfold cPiece; rw [orL_eq, orL_one, cS_eq, cStamp_eq]
theorem cXattr_eq {a b : S_api_Xattr} : cXattr a b = 0 ↔ a.At = b.At ∧ a.Gone = b.Gone ∧ a.Val = b.Val := by unfold cXattr; rw [orL_eq, orL_eq, orL_one, cS_eq, cStamp_eq, flag_eq]
theorem cPlace_eq {a b : S_api_Link} : cPlace a b = 0 ↔ a.At = b.At ∧ a.Parent = b.Parent ∧ a.Name = b.Name := by unfold cPlace; rw [orL_eq, orL_eq, orL_one, cS_eq, cStamp_eq, cStamp_eq]
theorem cAttr_eq {a b : S_api_Attr} : cAttr a b = 0 ↔ a = b := by unfold cAttr; rw [orL_eq, orL_eq, orL_one, cI_eq, cI_eq, cStamp_eq]; cases a; cases b; simp
theorem cSize_eq {a b : S_api_Size} : cSize a b = 0 ↔ a = b := by unfold cSize; rw [orL_eq, orL_one, cI_eq, cStamp_eq]; cases a; cases b; simp
theorem Lat.piece : Lat kPiece (gr cPiece) := Lat.ofGr KeyOf.piece Ord3.cPiece fun x y h1 h2 => by
  have h1 := cI_eq.1 h1
  obtain ⟨h2, h3⟩ := cPiece_eq.1 h2
  cases x; cases y; simp_all
theorem Lat.xattr : Lat kXattr (gr cXattr) := Lat.ofGr KeyOf.xattr Ord3.cXattr fun x y h1 h2 => by
  have h1 := cS_eq.1 h1
  obtain ⟨h2, h3, h4⟩ := cXattr_eq.1 h2
  cases x; cases y; simp_all
/-! ### one of two, in an order without ties -/
structure Tot {S : Type} (c : S → S → Int) : Prop where
  ord : Ord3 c
  eq : ∀ x y, c x y = 0 → x = y
theorem Tot.lat {S : Type} {c : S → S → Int} (t : Tot c) : Lat (fun _ _ => 0) (gr c) := Lat.ofGr ⟨⟨fun _ => rfl, fun _ _ => by simp, fun _ _ _ _ _ => by simp⟩, fun _ _ _ _ => rfl, fun _ _ _ _ => rfl⟩ t.ord fun x y _ h => t.eq x y h
theorem Tot.comm {S : Type} {c : S → S → Int} (t : Tot c) (x y : S) : gr c x y = gr c y x := t.lat.comm rfl
theorem Tot.assoc {S : Type} {c : S → S → Int} (t : Tot c) (x y z : S) : gr c (gr c x y) z = gr c x (gr c y z) := t.lat.assoc rfl rfl
theorem gr_self {S : Type} {c : S → S → Int} (x : S) : gr c x x = x := by simp [gr]
theorem Tot.attr : Tot cAttr := ⟨Ord3.cAttr, fun _ _ h => cAttr_eq.1 h⟩
theorem Tot.size : Tot cSize := ⟨Ord3.cSize, fun _ _ h => cSize_eq.1 h⟩
theorem Tot.stamp : Tot cStamp := ⟨Ord3.stamp, fun _ _ h => cStamp_eq.1 h⟩
theorem Tot.str : Tot cS := ⟨Ord3.str, fun _ _ h => cS_eq.1 h⟩
theorem sMax_gr (a b : Str) : sMax a b = gr cS a b := by simp only [sMax, gr, cS_lt]
theorem iMax_gr (a b : Int) : iMax a b = max a b := by unfold iMax; split <;> omega
theorem vJoin_comm (a b : A8 Int) : vJoin a b = vJoin b a := by simp only [vJoin, Int.max_comm]
theorem vJoin_assoc (a b c : A8 Int) : vJoin (vJoin a b) c = vJoin a (vJoin b c) := by simp only [vJoin, Int.max_assoc]
theorem vJoin_self (a : A8 Int) : vJoin a a = a := by cases a; simp [vJoin]
/-! ### the place of a link -/
structure PlaceM where
  At : S_api_Stamp
  Parent : S_api_Stamp
  Name : Str
def cPl (a b : PlaceM) : Int := orL [cStamp a.At b.At, cStamp a.Parent b.Parent, cS a.Name b.Name]
def plOf (a : S_api_Link) : PlaceM := ⟨a.At, a.Parent, a.Name⟩
theorem Tot.pl : Tot cPl := by
  refine ⟨Ord3.lex (S := PlaceM) (c := fun x y => cStamp x.At y.At) (d := fun x y => [cStamp x.Parent y.Parent, cS x.Name y.Name]) (Ord3.stamp.comap PlaceM.At) (Ord3.lex (S := PlaceM) (c := fun x y => cStamp x.Parent y.Parent) (d := fun x y => [cS x.Name y.Name]) (Ord3.stamp.comap PlaceM.Parent) (Ord3.orL1 (S := PlaceM) (c := fun x y => cS x.Name y.Name) (Ord3.str.comap PlaceM.Name))), fun x y h => ?_⟩
  unfold cPl at h
  rw [orL_eq, orL_eq, orL_one, cS_eq, cStamp_eq, cStamp_eq] at h
  cases x; cases y; simp_all
theorem pl_gr (a b : S_api_Link) : plOf (gr cPlace a b) = gr cPl (plOf a) (plOf b) := by
  have : cPlace a b = cPl (plOf a) (plOf b) := rfl
  simp only [gr, this]; split <;> rfl
def mkL (i n : S_api_Stamp) (p : PlaceM) (a d : A8 Int) : S_api_Link := ⟨i, n, p.At, p.Parent, p.Name, a, d⟩
theorem mLink_mk (a b : S_api_Link) : mLink a b = mkL a.Id (gr cStamp a.Node b.Node) (gr cPl (plOf a) (plOf b)) (vJoin a.Alive b.Alive) (vJoin a.Dead b.Dead) := by
  rw [← pl_gr]; rfl
theorem plOf_mLink (a b : S_api_Link) : plOf (mLink a b) = gr cPl (plOf a) (plOf b) := by rw [mLink_mk]; rfl
theorem Lat.link : Lat kLink mLink := by
  refine ⟨KeyOf.link, fun {x y} h => ?_, fun {x y z} _ _ => ?_, fun {x y} _ => ?_⟩
  · have : x.Id = y.Id := cStamp_eq.1 h
    rw [mLink_mk, mLink_mk, this, Tot.stamp.comm, Tot.pl.comm, vJoin_comm, vJoin_comm x.Dead]
  · rw [mLink_mk (mLink x y), mLink_mk x (mLink y z), plOf_mLink, plOf_mLink, Tot.pl.assoc]
    simp only [mLink, Tot.stamp.assoc, vJoin_assoc]
  · rw [mLink_mk (mLink x x), mLink_mk x y, plOf_mLink, gr_self]
    simp only [mLink, gr_self, vJoin_self]
theorem mLink_self (x : S_api_Link) : mLink x x = x := by
  simp only [mLink, gr_self, vJoin_self]
/-! ### pieces and xattrs -/
theorem rput_rp {S : Type} {k d : S → S → Int} {l : List S} {x : S} : rput k (gr d) id l x = rp k (gr d) l x := by
  have : (fun x => gr d x x) = (id : S → S) := by funext x; simp [gr]
  rw [rp, this]
theorem mrg_rps {S : Type} {k d : S → S → Int} (w : KeyOf k (gr d)) (l : List S) : mrg k (gr d) l = rps k (gr d) [] l := by
  rw [← rput_all w]
  have : rput k (gr d) id = rp k (gr d) := by funext l x; exact rput_rp
  rw [this]
theorem mPieces_rps (l : List S_api_Piece) : mPieces l = rps kPiece (gr cPiece) [] l := mrg_rps KeyOf.piece l
theorem mXattrs_rps (l : List S_api_Xattr) : mXattrs l = rps kXattr (gr cXattr) [] l := mrg_rps KeyOf.xattr l
theorem rps_app {M : Type} {c : M → M → Int} {o : M → M → M} (l a b : List M) : rps c o l (a ++ b) = rps c o (rps c o l a) b := by simp [rps, List.foldl_append]
theorem rise_nil {M : Type} {c : M → M → Int} : Rise c ([] : List M) := .nil
section
variable {M : Type} {c : M → M → Int} {o : M → M → M}
theorem all_comm (w : Lat c o) (a b : List M) : rps c o [] (a ++ b) = rps c o [] (b ++ a) := rps_set w rise_nil fun x => by simp [or_comm]
theorem all_self (w : Lat c o) (a : List M) : rps c o [] (a ++ a) = rps c o [] a := rps_set w rise_nil fun x => by simp
theorem all_l (w : Lat c o) (a b : List M) : rps c o [] (rps c o [] a ++ b) = rps c o [] (a ++ b) := by
  rw [all_comm w, rps_app, rps_flat w (rps_rise w b rise_nil), ← rps_app, all_comm w]
theorem all_r (w : Lat c o) (a b : List M) : rps c o [] (a ++ rps c o [] b) = rps c o [] (a ++ b) := by
  rw [rps_app, rps_flat w (rps_rise w a rise_nil), ← rps_app]
end
theorem mInode_self (x : InodeM) : mInode x x = normI x := by
  simp only [mInode, normI, gr_self, sMax_gr, iMax_gr, Int.max_self, mPieces_rps, mXattrs_rps, all_self Lat.piece, all_self Lat.xattr]
theorem Lat.inode : Lat kInodeM mInode := by
  refine ⟨KeyOf.inode, fun {x y} h => ?_, fun {x y z} _ _ => ?_, fun {x y} _ => ?_⟩
  · have : x.Id = y.Id := cStamp_eq.1 h
    simp only [mInode, this, sMax_gr, iMax_gr, mPieces_rps, mXattrs_rps]
    rw [Tot.str.comm, Tot.attr.comm, Tot.size.comm, Int.max_comm, all_comm Lat.piece, all_comm Lat.xattr]
  · simp only [mInode, sMax_gr, iMax_gr, mPieces_rps, mXattrs_rps]
    rw [Tot.str.assoc, Tot.attr.assoc, Tot.size.assoc, Int.max_assoc, all_l Lat.piece, all_l Lat.xattr, all_r Lat.piece, all_r Lat.xattr, List.append_assoc, List.append_assoc]
  · rw [mInode_self]
    simp only [mInode, normI, mPieces_rps, mXattrs_rps]
    rw [all_l Lat.piece, all_l Lat.xattr]
/-! ### states -/
theorem mNodes_norm (l : List InodeM) : (mNodes l).map normI = rps kInodeM mInode [] l := by
  refine snocInd (P := fun l => (mNodes l).map normI = rps kInodeM mInode [] l) rfl (fun l x ih => ?_) l
  have e : rps kInodeM mInode [] (l ++ [x]) = rp kInodeM mInode (rps kInodeM mInode [] l) x := by simp only [rps, List.foldl_append]; rfl
  rw [e, ← ih, mNodes, mrg_snoc KeyOf.inode]
  have hr : Rise kInodeM (mrg kInodeM mInode l) := mfold_rises KeyOf.inode _ (isort_ss Ord3.kInodeM.swo l).sorted
  obtain ⟨A, B, hA, hB, hh⟩ := hr.split Ord3.kInodeM x
  have mp : ∀ {p : InodeM → Prop} {L : List InodeM}, (∀ a ∈ L, p (normI a)) → ∀ b ∈ L.map normI, p b := fun h b hb => by
    obtain ⟨a, ha, rfl⟩ := List.mem_map.1 hb; exact h a ha
  have nn : ∀ a, normI (mInode a x) = mInode (normI a) x := fun a => by
    simp only [mInode, normI, mPieces_rps, mXattrs_rps]
    have h1 := all_l Lat.piece (a.Pieces ++ x.Pieces) []
    have h2 := all_l Lat.xattr (a.Xattrs ++ x.Xattrs) []
    simp only [List.append_nil] at h1 h2
    rw [h1, h2, all_l Lat.piece, all_l Lat.xattr]
  have hi : (fun x => mInode x x) = normI := by funext x; exact mInode_self x
  rw [rp, hi]
  rcases hh with ⟨h1, _⟩ | ⟨y, h0, h1, _⟩
  · rw [show mNodes l = mrg kInodeM mInode l from rfl, h1, rput_new Ord3.kInodeM id hA hB, List.map_append, List.map_append, rput_new Ord3.kInodeM normI (mp (p := fun a => kInodeM a x < 0) hA) (mp (p := fun b => kInodeM x b < 0) hB)]
    simp
  · rw [show mNodes l = mrg kInodeM mInode l from rfl, h1, rput_same Ord3.kInodeM id hA h0 hB, List.map_append, List.map_cons, List.map_append, List.map_cons, rput_same Ord3.kInodeM normI (y := normI y) (mp (p := fun a => kInodeM a x < 0) hA) h0 (mp (p := fun b => kInodeM x b < 0) hB)]
    simp [nn]
theorem mLinks_rps (l : List S_api_Link) : mLinks l = rps kLink mLink [] l := by
  rw [mLinks, ← rput_all KeyOf.link]
  have : rput kLink mLink id = rp kLink mLink := by
    funext l x
    have : (fun x => mLink x x) = (id : S_api_Link → S_api_Link) := by funext x; exact mLink_self x
    rw [rp, this]
  rw [this]
def okS (s : StateM) : Prop := Rise kInodeM s.Nodes ∧ (∀ x ∈ s.Nodes, mInode x x = x) ∧ Rise kLink s.Links
theorem emptyM_ok : okS emptyM := ⟨by simp [Rise, emptyM], by
  intro x hx
  simp only [emptyM, List.mem_cons, List.not_mem_nil, or_false] at hx
  subst hx
  rw [mInode_self]; rfl, .nil⟩
/-- all of a list of states, put one by one -/
def putS (s m : StateM) : StateM := ⟨vJoin s.Seen m.Seen, rps kInodeM mInode s.Nodes m.Nodes, rps kLink mLink s.Links m.Links⟩
theorem mStates_put {s : StateM} (hs : okS s) (m : StateM) : mStates s m = putS s m := by
  simp only [mStates, putS, mNodes_norm, mLinks_rps, rps_app]
  rw [rps_self Lat.inode hs.1 hs.2.1, rps_self Lat.link hs.2.2 fun x _ => mLink_self x]
theorem putS_ok {s : StateM} (hs : okS s) (m : StateM) : okS (putS s m) := ⟨rps_rise Lat.inode _ hs.1, rps_ok Lat.inode _ hs.1 hs.2.1, rps_rise Lat.link _ hs.2.2⟩
theorem mFold_ok : ∀ (l : List EventM), okS (mFold l) ∧ mFold l = l.foldl (fun s e => putS s e.Delta) emptyM := by
  refine snocInd ⟨emptyM_ok, rfl⟩ fun l x ih => ?_
  have e : mFold (l ++ [x]) = mStates (mFold l) x.Delta := by simp [mFold, List.foldl_append]
  rw [e, mStates_put ih.1, List.foldl_append, ← ih.2]
  exact ⟨putS_ok ih.1 _, rfl⟩
theorem putS_comm {s : StateM} (hs : okS s) (a b : StateM) : putS (putS s a) b = putS (putS s b) a := by
  simp only [putS, vJoin_assoc]
  rw [vJoin_comm a.Seen, rps_rps Lat.inode _ hs.1, rps_rps Lat.link _ hs.2.2]
theorem putS_idem {s : StateM} (hs : okS s) (a : StateM) : putS (putS s a) a = putS s a := by
  simp only [putS, vJoin_assoc, vJoin_self]
  rw [rps_sub Lat.inode hs.1 _ fun _ h => h, rps_sub Lat.link hs.2.2 _ fun _ h => h]
def puts (s : StateM) (l : List EventM) : StateM := l.foldl (fun s e => putS s e.Delta) s
theorem puts_app (s : StateM) (a b : List EventM) : puts s (a ++ b) = puts (puts s a) b := by simp [puts, List.foldl_append]
theorem puts_ok : ∀ (l : List EventM) {s : StateM}, okS s → okS (puts s l)
  | [], _, h => h
  | e :: l, _, h => puts_ok l (putS_ok h e.Delta)
theorem puts_put : ∀ (l : List EventM) {s : StateM}, okS s → ∀ a, puts (putS s a) l = putS (puts s l) a
  | [], _, _, _ => rfl
  | e :: l, s, h, a => by
    simp only [puts, List.foldl_cons]
    rw [putS_comm h]
    exact puts_put l (putS_ok h _) a
theorem puts_in : ∀ (l : List EventM) {s : StateM}, okS s → ∀ e ∈ l, putS (puts s l) e.Delta = puts s l
  | [], _, _, e, he => by simp at he
  | x :: l, s, h, e, he => by
    rw [show puts s (x :: l) = puts (putS s x.Delta) l from rfl]
    rcases List.mem_cons.1 he with rfl | he
    · rw [puts_put l h, putS_idem (puts_ok l h)]
    · exact puts_in l (putS_ok h _) e he
theorem puts_sub {s : StateM} (h : okS s) {k : List EventM} : ∀ (j : List EventM), (∀ e ∈ j, e ∈ k) → puts (puts s k) j = puts s k
  | [], _ => rfl
  | x :: j, hs => by
    rw [show puts (puts s k) (x :: j) = puts (putS (puts s k) x.Delta) j from rfl, puts_in k h x (hs x (by simp))]
    exact puts_sub h j fun y hy => hs y (by simp [hy])
theorem puts_puts : ∀ (j : List EventM) {s : StateM} {k : List EventM}, okS s → puts (puts s k) j = puts (puts s j) k
  | [], _, _, _ => rfl
  | x :: j, s, k, h => by
    rw [show puts (puts s k) (x :: j) = puts (putS (puts s k) x.Delta) j from rfl, ← puts_put k h, show puts s (x :: j) = puts (putS s x.Delta) j from rfl]
    exact puts_puts j (putS_ok h _)
/-- P22.3: neither order nor how often -/
theorem mFold_set {k j : List EventM} (hs : ∀ x, x ∈ k ↔ x ∈ j) : mFold k = mFold j := by
  rw [(mFold_ok k).2, (mFold_ok j).2]
  show puts emptyM k = puts emptyM j
  rw [← puts_sub emptyM_ok j fun x hx => (hs x).2 hx, puts_puts j emptyM_ok, puts_sub emptyM_ok k fun x hx => (hs x).1 hx]
/-- P22.3: two lists, each as one, as one -/
theorem mFold_join (a b : List EventM) : mStates (mFold a) (mFold b) = mFold (a ++ b) := by
  rw [mStates_put (mFold_ok a).1, (mFold_ok (a ++ b)).2, (mFold_ok a).2]
  show putS (puts emptyM a) _ = puts emptyM (a ++ b)
  rw [puts_app]
  have ha : okS (puts emptyM a) := puts_ok a emptyM_ok
  have base : putS (puts emptyM a) emptyM = puts emptyM a := by
    rw [← puts_put a emptyM_ok]
    congr 1
  refine snocInd (P := fun b => putS (puts emptyM a) (mFold b) = puts (puts emptyM a) b) base (fun l x ih => ?_) b
  rw [puts_app, ← ih]
  have e : mFold (l ++ [x]) = mStates (mFold l) x.Delta := by simp [mFold, List.foldl_append]
  have hl := (mFold_ok l).1
  rw [e, mStates_put hl]
  show putS (puts emptyM a) (putS (mFold l) x.Delta) = putS (putS (puts emptyM a) (mFold l)) x.Delta
  simp only [putS, vJoin_assoc]
  congr 1
  · rw [← rps_app, ← rps_self Lat.inode hl.1 hl.2.1]
    conv => lhs; rw [← rps_app, rps_flat Lat.inode ha.1]
    rw [rps_app, rps_app, rps_flat Lat.inode ha.1]
  · rw [← rps_app, ← rps_self Lat.link hl.2.2 fun x _ => mLink_self x]
    conv => lhs; rw [← rps_app, rps_flat Lat.link ha.2.2]
    rw [rps_app, rps_app, rps_flat Lat.link ha.2.2]
end Go.Lf
namespace Go.Lf
open Go.Crn
variable {h : Hp}
/-- two rows that read alike, gone through -/
theorem eqloop_ {S : Type} {e : Elt S} {eqb : S → S → Bool} {A B : Nat → Prop} {a b : Sl} {l : List S} {F T : Hp → Prop} (he : ∀ x, eqb x x = true) (ra : Rows A e h a l) (rb : Rows B e h b l) (hn : l.length < 2 ^ 62) (k : T h) :
    LoopF (σ := Int) 0 h fun u h3 L2 =>
      If (decide (u < (a.len : Int))) (
        Ix a u e.sz fun p5 =>
        LdA e.cells h3 p5 fun v7 =>
        Ix b u e.sz fun p9 =>
        LdA e.cells h3 p9 fun v11 =>
        If (!eqb v7 v11) (F h3) (L2 (IntKind.wrap .i64 (u + (1 : Int))) h3)
      ) (T h3) := by
  have hl := ra.1
  refine loop_ (fun m u h1 => h1 = h ∧ ∃ i : Nat, i ≤ l.length ∧ u = (i : Int) ∧ m = l.length - i) l.length ⟨rfl, 0, by omega, rfl, rfl⟩ ?_
  rintro m u h1 ⟨rfl, i, hi, rfl, rfl⟩
  refine if_ (fun g => ?_) fun g => k
  simp only [decide_eq_true_eq] at g
  have hil : i < l.length := by omega
  have gx : l[i]? = some l[i] := by simp [hil]
  generalize l[i] = x at gx
  refine ixlda ra rfl gx fun _ _ _ => ixlda rb rfl gx fun _ _ _ => ?_
  rw [he]
  exact if_false ⟨l.length - (i + 1), by omega, by trivial, i + 1, by omega, by rw [wi (by omega) (by omega)]; rfl, rfl⟩
theorem lens_eq {S T : Type} {e : Elt S} {e' : Elt T} {A B : Nat → Prop} {a b : Sl} {l : List S} {l' : List T} (ra : Rows A e h a l) (rb : Rows B e' h b l') (hl : l.length = l'.length) : ((a.len : Int) != (b.len : Int)) = false := by
  rw [ra.1, rb.1, hl]; simp
theorem equalP_ {A B : Nat → Prop} {a b : Sl} {l : List S_api_Piece} {Q : Bool → Hp → Prop} (ra : Rows A ePiece h a l) (rb : Rows B ePiece h b l) (hn : l.length < 2 ^ 62) (k : Q true h) : slices_Equal_api_Piece_api_Piece a b Q h := by
  unfold slices_Equal_api_Piece_api_Piece
  rw [lens_eq ra rb rfl]
  exact if_false (eqloop_ (e := ePiece) (fun x => S_api_Piece.eqb_iff.2 rfl) ra rb hn k)
theorem equalX_ {A B : Nat → Prop} {a b : Sl} {l : List S_api_Xattr} {Q : Bool → Hp → Prop} (ra : Rows A eXattr h a l) (rb : Rows B eXattr h b l) (hn : l.length < 2 ^ 62) (k : Q true h) : slices_Equal_api_Xattr_api_Xattr a b Q h := by
  unfold slices_Equal_api_Xattr_api_Xattr
  rw [lens_eq ra rb rfl]
  exact if_false (eqloop_ (e := eXattr) (fun x => S_api_Xattr.eqb_iff.2 rfl) ra rb hn k)
theorem equalL_ {A B : Nat → Prop} {a b : Sl} {l : List S_api_Link} {Q : Bool → Hp → Prop} (ra : Rows A eLink h a l) (rb : Rows B eLink h b l) (hn : l.length < 2 ^ 62) (k : Q true h) : slices_Equal_api_Link_api_Link a b Q h := by
  unfold slices_Equal_api_Link_api_Link
  rw [lens_eq ra rb rfl]
  exact if_false (eqloop_ (e := eLink) (fun x => S_api_Link.eqb_iff.2 rfl) ra rb hn k)
theorem same1_ {A B : Nat → Prop} {x y : S_api_Inode} {m : InodeM} {Q : Bool → Hp → Prop} (dx : repI A h x m) (dy : repI B h y m) (hw : wI m < 2 ^ 60) (k : ∀ h', Ext h h' → Q true h') : facts_Same_1 x y Q h := by
  obtain ⟨x1, x2, x3, x4, x5, x6, x7⟩ := dx
  obtain ⟨y1, y2, y3, y4, y5, y6, y7⟩ := dy
  simp only [wI] at hw
  unfold facts_Same_1
  rw [x1, x2, x3, x4, x5, y1, y2, y3, y4, y5, S_api_Stamp.eqb_iff.2 rfl, S_api_Attr.eqb_iff.2 rfl, S_api_Size.eqb_iff.2 rfl, beq_self_eq_true, beq_self_eq_true]
  refine al_ .start fun b1 h2 f _ _ _ => al_ f fun b3 h4 f4 _ _ _ => j_ (if_true (if_true (if_true (if_true (if_true ?_)))))
  refine equalP_ (x6.ext f4.e0) (y6.ext f4.e0) (by omega) (kp_ f4 .refl (by simp) fun _ => if_true (equalX_ (x7.ext f4.e0) (y7.ext f4.e0) (by omega) (k _ f4.e0)))
theorem samen_ {A B : Nat → Prop} {x y : S_api_Inode} {m : InodeM} {Q : Bool → Hp → Prop} (dx : repI A h x m) (dy : repI B h y m) (hw : wI m < 2 ^ 60) (k : ∀ h', Ext h h' → Q true h') : crannogref10_SameNode x y Q h := by
  obtain ⟨x1, x2, x3, x4, x5, x6, x7⟩ := dx
  obtain ⟨y1, y2, y3, y4, y5, y6, y7⟩ := dy
  simp only [wI] at hw
  unfold crannogref10_SameNode
  rw [x1, x2, x3, x4, x5, y1, y2, y3, y4, y5, S_api_Stamp.eqb_iff.2 rfl, S_api_Attr.eqb_iff.2 rfl, S_api_Size.eqb_iff.2 rfl, bne_self_eq_false, bne_self_eq_false, lens_eq x6 y6 rfl, lens_eq x7 y7 rfl]
  refine al_ .start fun b1 h2 f _ _ _ => al_ f fun b3 h4 f4 _ _ _ => j_ (if_false (if_false (if_false (if_false (if_false (if_false (if_false ?_)))))))
  refine eqloop_ (e := ePiece) (fun x => S_api_Piece.eqb_iff.2 rfl) (x6.ext f4.e0) (y6.ext f4.e0) (by omega) ?_
  exact eqloop_ (e := eXattr) (fun x => S_api_Xattr.eqb_iff.2 rfl) (x7.ext f4.e0) (y7.ext f4.e0) (by omega) (k _ f4.e0)
theorem wI_mem {m : InodeM} {l : List InodeM} (h : m ∈ l) : wI m ≤ wsum wI l := by
  induction l with
  | nil => cases h
  | cons x l ih =>
    simp only [wsum, List.map_cons, List.sum_cons] at *
    rcases List.mem_cons.1 h with rfl | h
    · omega
    · have := ih h; omega
theorem fsame_ {A B : Nat → Prop} {x y : S_api_State} {m : StateM} {Q : Bool → Hp → Prop} (dx : repS A h x m) (dy : repS B h y m) (hw : wS m < 2 ^ 60) (k : ∀ h', Ext h h' → Q true h') : facts_Same x y Q h := by
  obtain ⟨x1, ⟨lx, x2, x3⟩, x4⟩ := dx
  obtain ⟨y1, ⟨ly, y2, y3⟩, y4⟩ := dy
  simp only [wS] at hw
  have e1 := x3.len
  have e2 := y3.len
  have e3 := x2.1
  unfold facts_Same
  rw [x1, y1, A8.eqb_iff.2 rfl]
  refine al_ .start fun b1 h2 f _ _ _ => al_ f fun b3 h4 f4 _ _ _ => j_ (if_true (equalL_ (x4.ext f4.e0) (y4.ext f4.e0) (by omega) (kp_ f4 .refl (by simp) fun _ => if_true ?_)))
  unfold slices_EqualFunc_api_Inode_api_Inode_api_Inode_api_Inode
  rw [lens_eq x2 y2 (by rw [e1, e2])]
  refine if_false (loop_ (fun q u h1 => ∃ i : Nat, i ≤ lx.length ∧ u = (i : Int) ∧ q = lx.length - i ∧ Fr h [] h1 h1) lx.length ⟨0, by omega, rfl, rfl, f4.base.drop (by simp)⟩ ?_)
  rintro q u h1 ⟨i, hi, rfl, rfl, f1⟩
  refine if_ (fun g => ?_) fun g => k _ f1.e0
  simp only [decide_eq_true_eq] at g
  have gx : lx[i]? = some (lx[i]'(by omega)) := by simp [show i < lx.length by omega]
  have gy : ly[i]? = some (ly[i]'(by omega)) := by simp [show i < ly.length by omega]
  generalize lx[i]'(by omega) = x at gx
  generalize ly[i]'(by omega) = y at gy
  obtain ⟨mi, gm, dx⟩ := x3.get gx
  obtain ⟨mj, gn, dy⟩ := y3.get gy
  rw [gm] at gn; cases gn
  have := wI_mem (List.mem_of_getElem? gm)
  refine ixlda (x2.ext f1.e0) rfl gx fun _ _ _ => al_ f1 fun b9 h10 f10 _ hb9 _ => st_ f10 (by simp) hb9 fun h11 f11 _ => ixlda (y2.ext f11.e0) rfl gy fun _ _ _ => al_ f11 fun b16 h17 f17 _ hb16 _ => st_ f17 (by simp) hb16 fun h18 f18 _ => ?_
  exact same1_ (DI.ext dx f18.e0) (DI.ext dy f18.e0) (by omega) fun h20 e20 => if_false ⟨lx.length - (i + 1), by omega, i + 1, by omega, by rw [wi (by omega) (by omega)]; rfl, rfl, (f18.ext e20).base.drop (by simp)⟩
theorem rsame_ {A B : Nat → Prop} {x y : S_api_State} {m : StateM} {Q : Bool → Hp → Prop} (dx : repS A h x m) (dy : repS B h y m) (hw : wS m < 2 ^ 60) (k : ∀ h', Ext h h' → Q true h') : crannogref10_Same x y Q h := by
  obtain ⟨x1, ⟨lx, x2, x3⟩, x4⟩ := dx
  obtain ⟨y1, ⟨ly, y2, y3⟩, y4⟩ := dy
  simp only [wS] at hw
  have e1 := x3.len
  have e2 := y3.len
  have e3 := x2.1
  unfold crannogref10_Same
  rw [x1, y1, A8.eqb_iff.2 rfl, lens_eq x4 y4 rfl, lens_eq x2 y2 (by rw [e1, e2])]
  refine al_ .start fun b1 h2 f _ _ _ => al_ f fun b3 h4 f4 _ _ _ => j_ (if_false (if_false (if_false ?_)))
  refine loop_ (fun q u h1 => ∃ i : Nat, i ≤ lx.length ∧ u = (i : Int) ∧ q = lx.length - i ∧ Fr h [b3, b1] h1 h1) lx.length ⟨0, by omega, rfl, rfl, f4.base⟩ ?_
  rintro q u h1 ⟨i, hi, rfl, rfl, f1⟩
  refine if_ (fun g => ?_) fun g => eqloop_ (e := eLink) (fun x => S_api_Link.eqb_iff.2 rfl) (x4.ext f1.e0) (y4.ext f1.e0) (by omega) (k _ f1.e0)
  simp only [decide_eq_true_eq] at g
  have gx : lx[i]? = some (lx[i]'(by omega)) := by simp [show i < lx.length by omega]
  have gy : ly[i]? = some (ly[i]'(by omega)) := by simp [show i < ly.length by omega]
  generalize lx[i]'(by omega) = x at gx
  generalize ly[i]'(by omega) = y at gy
  obtain ⟨mi, gm, dx⟩ := x3.get gx
  obtain ⟨mj, gn, dy⟩ := y3.get gy
  rw [gm] at gn; cases gn
  have := wI_mem (List.mem_of_getElem? gm)
  refine ixlda (x2.ext f1.e0) rfl gx fun _ _ _ => ixlda (y2.ext f1.e0) rfl gy fun _ _ _ => ?_
  exact samen_ (DI.ext dx f1.e0) (DI.ext dy f1.e0) (by omega) fun h20 e20 => kp_ f1 e20 (by simp) fun f20 => if_false ⟨lx.length - (i + 1), by omega, i + 1, by omega, by rw [wi (by omega) (by omega)]; rfl, rfl, f20.base⟩
/-! ### the example -/
theorem contains_ {A : Nat → Prop} {s : Sl} {l : List S_api_Event} {f : S_api_Event → (Bool → Hp → Prop) → Hp → Prop} {p : S_api_Event → Bool} {Q : Bool → Hp → Prop} (r : Rows A eEvent h s l) (hn : l.length < 2 ^ 62) (hf : ∀ x h' Q, Ext h h' → (∀ h'', Ext h' h'' → Q (p x) h'') → f x Q h')
    (k : ∀ h', Ext h h' → Q (l.any p) h') : slices_ContainsFunc_api_Event_api_Event s f Q h := by
  unfold slices_ContainsFunc_api_Event_api_Event slices_IndexFunc_api_Event_api_Event
  have hl := r.1
  refine loop_ (fun m u h1 => ∃ i : Nat, i ≤ l.length ∧ u = (i : Int) ∧ m = l.length - i ∧ Ext h h1 ∧ (l.drop i).any p = l.any p) l.length ⟨0, by omega, rfl, rfl, .refl, by simp⟩ ?_
  rintro m u h1 ⟨i, hi, rfl, rfl, e1, hd⟩
  refine if_ (fun g => ?_) fun g => ?_
  · simp only [decide_eq_true_eq] at g
    have hil : i < l.length := by omega
    have gx : l[i]? = some l[i] := by simp [hil]
    have hdd : l.drop i = l[i] :: l.drop (i + 1) := by simp
    generalize l[i] = x at gx hdd
    refine ixlda (r.ext e1) rfl gx fun _ _ _ => hf x h1 _ e1 fun h2 e2 => if_ (fun g2 => ?_) fun g2 => ?_
    · have := k h2 (e1.trans e2)
      rw [← hd, hdd, List.any_cons, g2, Bool.true_or] at this
      have e : decide ((i : Int) ≥ 0) = true := by simp
      show Q (decide ((i : Int) ≥ 0)) h2
      rw [e]; exact this
    · rw [hdd, List.any_cons, g2, Bool.false_or] at hd
      exact ⟨l.length - (i + 1), by omega, i + 1, by omega, by rw [wi (by omega) (by omega)]; rfl, rfl, e1.trans e2, hd⟩
  · simp only [decide_eq_false_iff_not] at g
    have : i = l.length := by omega
    subst this
    rw [List.drop_length] at hd
    have := k h1 e1
    rw [← hd] at this
    simpa using this
def exA : S_api_Event := ⟨⟨1, 0⟩, 0, ⟨0, 0, 0, 0, 0, 0, 0, 0⟩, ⟨⟨0, 0, 0, 0, 0, 0, 0, 0⟩, Sl.nil, Sl.nil⟩⟩
def exB : S_api_Event := ⟨⟨2, 1⟩, 0, ⟨1, 0, 0, 0, 0, 0, 0, 0⟩, ⟨⟨0, 0, 0, 0, 0, 0, 0, 0⟩, Sl.nil, Sl.nil⟩⟩
theorem alo_ {S : Type} {e : Elt S} {h0 hA : Hp} {bs : List Addr} {x : S} {K : Addr → Hp → Prop} (f : Fr h0 bs hA h) (k : ∀ b h', Fr h0 bs hA h' → Ext h h' → Own e h' (Sl.mk (some b) 1 1) [x] → b.block = h.size → b.off = 0 → b.spot = none → K b h') : Al h (e.cells x) K := fun T => by
  have ex : Ext h (h.push (.cells (e.cells x).toArray T)) := .push
  refine k _ _ (f.ext ex) ex ⟨rfl, .inr ⟨h.size, T, [], rfl, by simp, by simp, by simp⟩⟩ rfl rfl rfl
theorem pl0 {b : Addr} {sz : Nat} (h1 : b.off = 0) (h2 : b.spot = none) : Pl (Sl.mk (some b) 1 1) sz b 0 := ⟨b, rfl, by
  obtain ⟨c, o, s⟩ := b
  simp only at h1 h2
  subst h1; subst h2
  rw [Nat.zero_mul, flat_add]⟩
theorem row_sub {a : Addr} {cs ys : List Value} {off : Nat} (r : Row h a cs) (hs : ∀ (i : Nat) v, ys[i]? = some v → cs[off + i]? = some v) : Row h (a.add off) ys := fun i v hi => by
  rw [add_add]; exact r _ _ (hs i v hi)
def lastP (v x : S_api_Event) : Bool := !S_api_Stamp.eqb x.At v.At && !vHas v.Knew x.At
theorem last1_ {b : Addr} {v x : S_api_Event} {Q : Bool → Hp → Prop} (r : Row h b (S_api_Event.cells v)) (k : ∀ h', Ext h h' → Q (lastP v x) h') : model_Last_1 x b Q h := by
  unfold model_Last_1
  refine al_ .start fun b1 h2 f2 e2 hb1 _ => j_ ⟨v.At, row_sub (row_ag r f2.e0 (by simp)) (fun i w hi => ?_), if_ (fun g => ⟨v, row_ag r f2.e0 (by simp), before_ fun h12 e12 => ?_⟩) fun g => ?_⟩
  · match i, hi with
    | 0, hi => simpa [S_api_Stamp.cells, S_api_Event.cells] using hi
    | 1, hi => simpa [S_api_Stamp.cells, S_api_Event.cells] using hi
    | i + 2, hi => simp [S_api_Stamp.cells] at hi
  · have := k h12 (f2.e0.trans e12)
    simpa [lastP, g] using this
  · have := k h2 f2.e0
    simpa [lastP, g] using this
theorem last_ex {A : Nat → Prop} {s : Sl} {Q : S_api_Event × Bool → Hp → Prop} (r : Rows A eEvent h s [exA, exB]) (k : ∀ h', Ext h h' → Q (exB, true) h') : model_Last s Q h := by
  unfold model_Last
  have hl := r.1
  refine al_ .start fun b1 h2 f2 e2 hb1 _ => ?_
  refine loop_ (fun m u h1 => ∃ i : Nat, i < 2 ∧ u.1 = (i : Int) ∧ m = 2 - i ∧ Fr h [b1] h1 h1) 2 ⟨0, by omega, rfl, rfl, f2.base⟩ ?_
  rintro m ⟨u1, u2⟩ h5 ⟨i, hi, hu, rfl, f5⟩
  simp only at hu
  subst hu
  refine if_ (fun g => ?_) fun g => by simp [hl] at g; omega
  have gx : ([exA, exB] : List S_api_Event)[i]? = some (([exA, exB] : List S_api_Event)[i]'hi) := by simp [hi]
  have hp : [exA, exB].any (lastP ([exA, exB][i]'hi)) = decide (i = 0) := by
    match i, hi with
    | 0, _ => rfl
    | 1, _ => rfl
  have he : i = 1 → [exA, exB][i]'hi = exB := by rintro rfl; rfl
  generalize ([exA, exB] : List S_api_Event)[i]'hi = v at gx hp he
  refine ixlda (r.ext f5.e0) rfl gx fun _ _ _ => alo_ (e := eEvent) f5 fun b11 h12 f12 e12 o12 hb11 z1 z2 => kp_ f5 e12 (by simp) fun _ => own_st o12 (pl0 z1 z2) (by simp) fun h13 x13 o13 => ?_
  have c1 := (f5.b0 b1 (by simp)).2
  have g5 := f5.e0.size
  have e13 : Ext h h13 := f12.e0.over x13 fun j hj => by simp [Sl.blk] at hj; omega
  have f13 := f12.ag x13 fun j hj => by simp [Sl.blk] at hj; omega
  refine kpa_ f12 x13 (by simp) (fun b hb => by simp at hb; subst hb; simp [Sl.blk]; omega) ?_
  have r13 : ∀ h', Ext h13 h' → Row h' b11 (S_api_Event.cells v) := fun h' e => by
    obtain ⟨a, h1, _, h3⟩ := (o13.ext e).rows.2 0 v rfl
    cases h1
    have : b11.add 0 = b11 := by
      obtain ⟨c, o, s⟩ := b11
      simp only at z1 z2
      subst z1; subst z2
      rw [flat_add]
    rwa [Nat.zero_mul, this] at h3
  refine contains_ (p := lastP v) (r.ext e13) (by simp) (fun x h' Q e k => last1_ (r13 h' e) k) fun h15 e15 => kp_ f13 e15 (by simp) fun f15 => ?_
  rw [hp]
  refine if_ (fun g2 => ?_) fun g2 => ?_
  · have : i ≠ 0 := by simpa using g2
    have hv := he (by omega)
    subst hv
    exact ⟨exB, r13 _ e15, st0_ f15 (by simp) fun h18 f18 _ => k _ f18.e0⟩
  · have : i = 0 := by simpa using g2
    subst this
    exact ⟨1, by omega, 1, by omega, by rw [wi (by omega) (by omega)]; rfl, rfl, f15.base⟩
theorem awake_ {Q : Bool → Hp → Prop} (k : ∀ h', Ext h h' → Q true h') : crannoglaw22_awake Q h := by
  unfold crannoglaw22_awake
  refine al_ .start fun b1 h2 f2 _ hb1 _ => st_ f2 (by simp) hb1 fun h3 f3 _ => al_ f3 fun b4 h5 f5 _ hb4 _ => st_ f5 (by simp) hb4 fun h6 f6 _ => alv_ f6 fun b7 h8 f8 e8 r8 _ => kp_ f6 e8 (by simp) fun _ => ?_
  have r2 : Rows (· = b7.block) eEvent h8 (Sl.mk (some b7) 2 2) [exA, exB] := by
    refine ⟨rfl, fun i x hi => ⟨b7, rfl, rfl, ?_⟩⟩
    match i, hi with
    | 0, hi =>
      simp at hi; subst hi
      exact row_sub r8 fun j v hj => by
        have : j < 21 := (List.getElem?_eq_some_iff.1 hj).1
        rw [List.flatten_cons, List.getElem?_append_left (by simpa [S_api_Event.cells] using this)]
        simpa [eEvent, exA] using hj
    | 1, hi =>
      simp at hi; subst hi
      exact row_sub r8 fun j v hj => by
        have : j < 21 := (List.getElem?_eq_some_iff.1 hj).1
        rw [List.flatten_cons, List.getElem?_append_right (by simp [S_api_Event.cells, eEvent]), List.flatten_cons, List.getElem?_append_left (by simp [S_api_Event.cells, eEvent]; omega)]
        simpa [eEvent, exB, S_api_Event.cells] using hj
    | i + 2, hi => simp at hi
  refine last_ex r2 fun h10 e10 => kp_ f8 e10 (by simp) fun f10 => al_ f10 fun b11 h12 f12 _ hb11 _ => st_ f12 (by simp) hb11 fun h13 f13 _ => j_ ?_
  refine fold_ (m := []) ⟨[], Rows.nil, .nil⟩ (by simp [wL, wsum]) (by simp) fun r17 h18 e18 d18 => kp_ f13 e18 (by simp) fun f18 => empty_ fun r19 h20 e20 d20 => kp_ f18 e20 (by simp) fun f20 => ?_
  refine fsame_ (m := emptyM) (repS_ext d18 e20) d20 (by simp [wS, emptyM, wsum, wI, rootM]) fun h22 e22 => kp_ f20 e22 (by simp) fun f22 => if_true ?_
  refine before_ fun h25 e25 => kp_ f22 e25 (by simp) fun f25 => ?_
  refine if_ (fun _ => ?_) fun g => by simp [vHas, vIs, A8.at_, A8.toL] at g
  refine before_ fun h28 e28 => kp_ f25 e28 (by simp) fun f28 => ?_
  refine if_ (fun _ => if_true ?_) fun g => by simp [vHas, vIs, A8.at_, A8.toL] at g
  have := k _ f28.e0
  simpa [exB, S_api_Stamp.eqb] using this
end Go.Lf
namespace Go.Lf
open Go.Crn
variable {h : Hp}
def smS (m : StateM) : Prop := m.Nodes.length ≤ 120 ∧ m.Links.length ≤ 120 ∧ ∀ n ∈ m.Nodes, n.Pieces.length ≤ 120 ∧ n.Xattrs.length ≤ 120
theorem smS_w {m : StateM} (s : smS m) : wS m ≤ 40000 := by
  obtain ⟨h1, h2, h3⟩ := s
  have : ∀ l : List InodeM, (∀ n ∈ l, n.Pieces.length ≤ 120 ∧ n.Xattrs.length ≤ 120) → wsum wI l ≤ 240 * l.length := by
    intro l
    induction l with
    | nil => simp [wsum]
    | cons x l ih =>
      intro h
      have a := h x (by simp)
      have b := ih fun n hn => h n (by simp [hn])
      simp only [wsum, List.map_cons, List.sum_cons, List.length_cons, wI] at *
      omega
  have := this m.Nodes h3
  simp only [wS]; omega
theorem small1_ {A : Nat → Prop} {x : S_api_State} {m : StateM} {Q : Bool → Hp → Prop} (d : repS A h x m) (k : ∀ b h', Ext h h' → (b = true → smS m) → Q b h') : crannogplain_Small x Q h := by
  obtain ⟨x1, ⟨lx, x2, x3⟩, x4⟩ := d
  have e1 := x3.len
  have e3 := x2.1
  have e4 := x4.1
  unfold crannogplain_Small
  have no : ∀ {h'}, Ext h h' → Q false h' := fun e => k _ _ e (by simp)
  refine al_ .start fun b1 h2 f2 _ _ _ => ?_
  refine ⟨fun b h5 => Fr h [b1] h5 h5 ∧ (b = false → lx.length ≤ 120 ∧ m.Links.length ≤ 120), ?_, ?_⟩
  · rintro b h5 ⟨f5, hb⟩
    refine if_ (fun _ => no f5.e0) fun g => ?_
    obtain ⟨n1, n2⟩ := hb g
    refine loop_ (fun q u h1 => ∃ i : Nat, i ≤ lx.length ∧ u.2 = (i : Int) ∧ q = lx.length - i ∧ Fr h [b1] h1 h1 ∧ ∀ n ∈ m.Nodes.take i, n.Pieces.length ≤ 120 ∧ n.Xattrs.length ≤ 120) lx.length ⟨0, by omega, rfl, rfl, f5, by simp⟩ ?_
    rintro q ⟨u1, u2⟩ h8 ⟨i, hi, hu, rfl, f8, hp⟩
    simp only at hu
    subst hu
    refine if_ (fun g => ?_) fun g => ?_
    · simp only [decide_eq_true_eq] at g
      have gx : lx[i]? = some (lx[i]'(by omega)) := by simp [show i < lx.length by omega]
      generalize lx[i]'(by omega) = x at gx
      obtain ⟨mi, gm, dx⟩ := x3.get gx
      have hst : m.Nodes.take (i + 1) = m.Nodes.take i ++ [mi] := by rw [List.take_add_one, gm]; rfl
      have p1 := dx.2.2.2.2.2.1
      have p2 := dx.2.2.2.2.2.2
      have q1 := p1.1
      have q2 := p2.1
      refine ixlda (x2.ext f8.e0) rfl gx fun _ _ _ => al_ f8 fun b14 h15 f15 _ hb14 _ => st_ f15 (by simp) hb14 fun h16 f16 _ => ?_
      refine ⟨fun b h19 => Fr h [b1] h19 h19 ∧ (b = false → mi.Pieces.length ≤ 120 ∧ mi.Xattrs.length ≤ 120), ?_, ?_⟩
      · rintro b h19 ⟨f19, hb⟩
        refine if_ (fun _ => no f19.e0) fun g => ?_
        obtain ⟨r1, r2⟩ := hb g
        refine loop_ (fun q u h1 => ∃ j : Nat, j ≤ mi.Pieces.length ∧ u.2 = (j : Int) ∧ q = mi.Pieces.length - j ∧ Fr h [b1] h1 h1) mi.Pieces.length ⟨0, by omega, rfl, rfl, f19⟩ ?_
        rintro q ⟨u1, u2⟩ h22 ⟨j, hj, hu, rfl, f22⟩
        simp only at hu
        subst hu
        refine if_ (fun g => ?_) fun g => ?_
        · simp only [decide_eq_true_eq] at g
          have gy : mi.Pieces[j]? = some (mi.Pieces[j]'(by omega)) := by simp [show j < mi.Pieces.length by omega]
          generalize mi.Pieces[j]'(by omega) = y at gy
          refine ixlda (p1.ext f22.e0) rfl gy fun _ _ _ => al_ f22 fun b28 h29 f29 _ hb28 _ => st_ f29 (by simp) hb28 fun h30 f30 _ => ?_
          exact ⟨mi.Pieces.length - (j + 1), by omega, j + 1, by omega, by simp only; rw [wi (by omega) (by omega)]; rfl, rfl, f30.base.drop (by simp)⟩
        · refine loop_ (fun q u h1 => ∃ j : Nat, j ≤ mi.Xattrs.length ∧ u.2 = (j : Int) ∧ q = mi.Xattrs.length - j ∧ Fr h [b1] h1 h1) mi.Xattrs.length ⟨0, by omega, rfl, rfl, f22⟩ ?_
          rintro q ⟨u1, u2⟩ h33 ⟨j, hj, hu, rfl, f33⟩
          simp only at hu
          subst hu
          refine if_ (fun g => ?_) fun g => ?_
          · simp only [decide_eq_true_eq] at g
            have gy : mi.Xattrs[j]? = some (mi.Xattrs[j]'(by omega)) := by simp [show j < mi.Xattrs.length by omega]
            generalize mi.Xattrs[j]'(by omega) = y at gy
            refine ixlda (p2.ext f33.e0) rfl gy fun _ _ _ => al_ f33 fun b28 h29 f29 _ hb28 _ => st_ f29 (by simp) hb28 fun h30 f30 _ => ?_
            exact ⟨mi.Xattrs.length - (j + 1), by omega, j + 1, by omega, by simp only; rw [wi (by omega) (by omega)]; rfl, rfl, f30.base.drop (by simp)⟩
          · refine if_ (fun _ => no f33.e0) fun _ => ?_
            refine ⟨lx.length - (i + 1), by omega, i + 1, by omega, by simp only; rw [wi (by omega) (by omega)]; rfl, rfl, f33, ?_⟩
            rw [hst]
            intro n hn
            rcases List.mem_append.1 hn with hn | hn
            · exact hp n hn
            · simp at hn; subst hn; exact ⟨r1, r2⟩
      · refine if_ (fun g => ⟨f16.base.drop (by simp), by simp⟩) fun g => ⟨f16.base.drop (by simp), fun g2 => ?_⟩
        simp only [decide_eq_false_iff_not] at g g2
        omega
    · simp only [decide_eq_false_iff_not] at g
      have : i = lx.length := by omega
      subst this
      rw [List.take_of_length_le (by omega)] at hp
      refine loop_ (fun q u h1 => ∃ j : Nat, j ≤ m.Links.length ∧ u.2 = (j : Int) ∧ q = m.Links.length - j ∧ Fr h [b1] h1 h1) m.Links.length ⟨0, by omega, rfl, rfl, f8⟩ ?_
      rintro q ⟨u1, u2⟩ h33 ⟨j, hj, hu, rfl, f33⟩
      simp only at hu
      subst hu
      refine if_ (fun g => ?_) fun g => k true _ f33.e0 fun _ => ⟨by omega, n2, hp⟩
      simp only [decide_eq_true_eq] at g
      have gy : m.Links[j]? = some (m.Links[j]'(by omega)) := by simp [show j < m.Links.length by omega]
      generalize m.Links[j]'(by omega) = y at gy
      refine ixlda (x4.ext f33.e0) rfl gy fun _ _ _ => al_ f33 fun b28 h29 f29 _ hb28 _ => st_ f29 (by simp) hb28 fun h30 f30 _ => ?_
      refine if_ (fun _ => no f30.e0) fun _ => ?_
      exact ⟨m.Links.length - (j + 1), by omega, j + 1, by omega, by simp only; rw [wi (by omega) (by omega)]; rfl, rfl, f30.base.drop (by simp)⟩
  · refine if_ (fun g => ⟨f2.base, by simp⟩) fun g => ⟨f2.base, fun g2 => ?_⟩
    simp only [decide_eq_false_iff_not] at g g2
    omega
def smL (l : List EventM) : Prop := l.length ≤ 60 ∧ ∀ e ∈ l, smS e.Delta
theorem smL_w {l : List EventM} (s : smL l) : wL l ≤ 2400000 := by
  obtain ⟨h1, h2⟩ := s
  have : ∀ l : List EventM, (∀ e ∈ l, smS e.Delta) → wL l ≤ 40000 * l.length := by
    intro l
    induction l with
    | nil => simp [wL, wsum]
    | cons x l ih =>
      intro h
      have a := smS_w (h x (by simp))
      have b := ih fun n hn => h n (by simp [hn])
      simp only [wL, wsum, List.map_cons, List.sum_cons, List.length_cons] at *
      omega
  have := this l h2
  omega
theorem small_ {A : Nat → Prop} {a0 : Sl} {ss : List Sl} {ms : List (List EventM)} {Q : Bool → Hp → Prop} (ra : Rows A eSl h a0 ss) (d : F2 (fun s m => repL h s m) ss ms) (hn : ss.length ≤ 100) (k : ∀ b h', Ext h h' → (b = true → ∀ m ∈ ms, smL m) → Q b h') : crannoglaw22_small a0 Q h := by
  unfold crannoglaw22_small
  have hl := ra.1
  have hlm := d.len
  have no : ∀ {h'}, Ext h h' → Q false h' := fun e => k _ _ e (by simp)
  refine loop_ (fun q u h1 => ∃ i : Nat, i ≤ ss.length ∧ u.2 = (i : Int) ∧ q = ss.length - i ∧ 0 ≤ u.1 ∧ u.1 ≤ 60 ∧ Fr h [] h1 h1 ∧ ∀ m ∈ ms.take i, smL m) ss.length ⟨0, by omega, rfl, rfl, by omega, by omega, .start, by simp⟩ ?_
  rintro q ⟨u1, u2⟩ h3 ⟨i, hi, hu, rfl, hu1, hu2, f3, hp⟩
  simp only at hu hu1 hu2
  subst hu
  refine if_ (fun g => ?_) fun g => ?_
  · simp only [decide_eq_true_eq] at g
    have gx : ss[i]? = some (ss[i]'(by omega)) := by simp [show i < ss.length by omega]
    generalize ss[i]'(by omega) = s at gx
    obtain ⟨m, gm, ds⟩ := d.get gx
    have hst : ms.take (i + 1) = ms.take i ++ [m] := by rw [List.take_add_one, gm]; rfl
    obtain ⟨l, r1, r2⟩ := ds
    have hll := r1.1
    have hlm2 := r2.len
    refine ix_ (ra.ext f3.e0) rfl gx fun p _ rp => row_ld rp ?_
    have hmin : 0 ≤ iMin (s.len : Int) 61 ∧ iMin (s.len : Int) 61 ≤ 61 ∧ (iMin (s.len : Int) 61 ≤ 60 → (s.len : Int) ≤ 60) := by unfold iMin; split <;> omega
    have hw : IntKind.wrap .i64 (u1 + iMin (s.len : Int) 61) = u1 + iMin (s.len : Int) 61 := wi (by omega) (by omega)
    rw [hw]
    refine if_ (fun _ => no f3.e0) fun g2 => ?_
    simp only [decide_eq_false_iff_not] at g2
    have hln : l.length ≤ 60 := by omega
    refine loop_ (fun q u h1 => ∃ j : Nat, j ≤ l.length ∧ u = (j : Int) ∧ q = l.length - j ∧ Fr h [] h1 h1 ∧ ∀ e ∈ m.take j, smS e.Delta) l.length ⟨0, by omega, rfl, rfl, f3, by simp⟩ ?_
    rintro q u h11 ⟨j, hj, rfl, rfl, f11, hq⟩
    refine if_ (fun g3 => ?_) fun g3 => ?_
    · simp only [decide_eq_true_eq] at g3
      have gy : l[j]? = some (l[j]'(by omega)) := by simp [show j < l.length by omega]
      generalize l[j]'(by omega) = y at gy
      obtain ⟨my, gn, dy⟩ := r2.get gy
      have hsu : m.take (j + 1) = m.take j ++ [my] := by rw [List.take_add_one, gn]; rfl
      refine ixlda (r1.ext f11.e0) rfl gy fun _ _ _ => al_ f11 fun b17 h18 f18 _ hb17 _ => st_ f18 (by simp) hb17 fun h19 f19 _ => ?_
      refine ⟨fun b h22 => Fr h [] h22 h22 ∧ (b = false → smS my.Delta), ?_, ?_⟩
      · rintro b h22 ⟨f22, hb⟩
        refine if_ (fun _ => no f22.e0) fun g4 => ⟨l.length - (j + 1), by omega, j + 1, by omega, by rw [wi (by omega) (by omega)]; rfl, rfl, f22, ?_⟩
        rw [hsu]
        intro n hn
        rcases List.mem_append.1 hn with hn | hn
        · exact hq n hn
        · simp at hn; subst hn; exact hb g4
      · refine small1_ (repS_ext dy.2.2.2 f19.e0) fun b h24 e24 hb => kp_ f19 e24 (by simp) fun f24 => ?_
        have fd := f24.base.drop (bs' := []) (by simp)
        refine if_ (fun g4 => ⟨fd, by simp⟩) fun g4 => if_ (fun _ => ⟨fd, by simp⟩) fun _ => ⟨fd, fun _ => hb (by simpa using g4)⟩
    · simp only [decide_eq_false_iff_not] at g3
      have : j = l.length := by omega
      subst this
      rw [List.take_of_length_le (by omega)] at hq
      refine ⟨ss.length - (i + 1), by omega, i + 1, by omega, by simp only; rw [wi (by omega) (by omega)]; rfl, rfl, by simp only; omega, by simp only; omega, f11, ?_⟩
      rw [hst]
      intro n hn
      rcases List.mem_append.1 hn with hn | hn
      · exact hp n hn
      · simp at hn; subst hn; exact ⟨by omega, hq⟩
  · simp only [decide_eq_false_iff_not] at g
    have : i = ss.length := by omega
    subst this
    rw [List.take_of_length_le (by omega)] at hp
    exact k true _ f3.e0 fun _ => hp
end Go.Lf
namespace Go.Lf
open Go.Crn
variable {h : Hp}
theorem sLt_drop : ∀ (n : Nat) {a b : Str}, a.take n = b.take n → n ≤ a.length → n ≤ b.length → sLt (a.drop n) (b.drop n) = sLt a b
  | 0, _, _, _, _, _ => rfl
  | n + 1, [], _, _, h, _ => by simp at h
  | n + 1, _ :: _, [], _, _, h => by simp at h
  | n + 1, x :: a, y :: b, ht, h1, h2 => by
    simp only [List.take_succ_cons, List.cons.injEq] at ht
    obtain ⟨rfl, ht⟩ := ht
    rw [sLt_cons]
    simp [sLt_drop n ht (by simpa using h1) (by simpa using h2)]
theorem u8_lt {a b : UInt8} : ((a.toNat : Int) < (b.toNat : Int)) ↔ a < b := by
  rw [UInt8.lt_iff_toNat_lt]; omega
theorem rless_s_ {a b : Str} {Q : Bool → Hp → Prop} (hl : b.length < 2 ^ 63) (k : Q (sLt a b) h) : crannogref01_Less a b Q h := by
  unfold crannogref01_Less
  refine loop_ (fun m u h1 => h1 = h ∧ ∃ n : Nat, n ≤ a.length ∧ n ≤ b.length ∧ a.take n = b.take n ∧ u = (n : Int) ∧ m = b.length - n) b.length ⟨rfl, 0, by omega, by omega, rfl, rfl, rfl⟩ ?_
  rintro m u hh ⟨rfl, n, n1, n2, ht, rfl, rfl⟩
  have hd := sLt_drop n ht n1 n2
  refine if_ (fun g => ?_) fun g => ?_
  · simp only [decide_eq_true_eq] at g
    have hb : n < b.length := by omega
    have gb : b[n]? = some b[n] := by simp [hb]
    have hbd : b.drop n = b[n] :: b.drop (n + 1) := by simp
    refine j_ (if_ (fun g2 => ?_) fun g2 => ?_)
    · simp only [decide_eq_true_eq] at g2
      refine if_true ?_
      have : a.drop n = [] := by
        rw [List.drop_eq_nil_iff]; omega
      rw [this, hbd, sLt_nil_l] at hd
      rw [← hd] at k; exact k
    · simp only [decide_eq_false_iff_not] at g2
      have ha : n < a.length := by omega
      have ga : a[n]? = some a[n] := by simp [ha]
      have had : a.drop n = a[n] :: a.drop (n + 1) := by simp
      rw [had, hbd, sLt_cons] at hd
      refine ⟨a[n], by omega, by simp [ha], b[n], by omega, by simp [hb], if_ (fun g3 => ?_) fun g3 => ⟨a[n], by omega, by simp [ha], b[n], by omega, by simp [hb], if_ (fun g4 => ?_) fun g4 => ?_⟩⟩
      · simp only [decide_eq_true_eq, u8_lt] at g3
        simp only [g3, decide_true, Bool.true_or] at hd
        rw [← hd] at k; exact k
      · simp only [decide_eq_true_eq, decide_eq_false_iff_not, u8_lt, gt_iff_lt] at g3 g4
        have : a[n] ≠ b[n] := fun e => by rw [e] at g4; exact UInt8.lt_irrefl _ g4
        simp only [g3, decide_false, Bool.false_or] at hd
        have h0 : (a[n] == b[n]) = false := by simpa using this
        rw [h0, Bool.false_and] at hd
        rw [← hd] at k; exact k
      · simp only [decide_eq_false_iff_not, u8_lt, gt_iff_lt] at g3 g4
        have : a[n] = b[n] := by
          by_cases e : a[n] = b[n]
          · exact e
          · rcases UInt8.lt_or_lt_of_ne e with h | h
            · exact (g3 h).elim
            · exact (g4 h).elim
        refine ⟨b.length - (n + 1), by omega, by trivial, n + 1, by omega, by omega, ?_, by rw [wi (by omega) (by omega)]; rfl, rfl⟩
        rw [List.take_add_one, List.take_add_one, ht, ga, gb, this]
  · simp only [decide_eq_false_iff_not] at g
    have : b.drop n = [] := by rw [List.drop_eq_nil_iff]; omega
    rw [this, sLt_nil_r] at hd
    rw [← hd] at k; exact k
theorem rless_ {a b : S_api_Stamp} {Q : Bool → Hp → Prop} (k : ∀ h', Ext h h' → Q (decide (cStamp a b < 0)) h') : crannogref09_Less a b Q h := by
  unfold crannogref09_Less
  refine al_ .start fun b1 h2 f e _ _ => al_ f fun b3 h4 f e _ _ => j_ (if_ (fun g => ?_) fun g => if_ (fun g2 => ?_) fun g2 => ?_)
  all_goals (have := k _ f.e0; simp only [cStamp_lt] at this; simp at *)
  · simpa [g] using this
  · have g3 : ¬ a.Time < b.Time := by omega
    simpa [g3, g2] using this
  · have g3 : ¬ a.Time < b.Time := by omega
    simpa [g3, g2] using this
theorem later_ {a b : S_api_Stamp} {Q : S_api_Stamp → Hp → Prop} (k : ∀ h', Ext h h' → Q (gr cStamp a b) h') : crannogref09_Later a b Q h := by
  unfold crannogref09_Later
  refine al_ .start fun b1 h2 f e _ _ => al_ f fun b3 h4 f e _ _ => al_ f fun b5 h6 f e hb5 _ => rless_ fun h8 e => kp_ f e (by simp) fun f => if_ (fun g => ?_) fun g => ?_
  all_goals (refine st_ f (by simp) hb5 fun h9 f _ => ?_; have := k _ f.e0; unfold gr at this; simp at g)
  · rwa [if_pos g] at this
  · rwa [if_neg (by omega)] at this
theorem ris_ {s : S_api_Stamp} {Q : Bool → Hp → Prop} (k : ∀ h', Ext h h' → Q (vIs s) h') : crannogref09_Is s Q h := is_ k
theorem rhas_ {v : A8 Int} {s : S_api_Stamp} {Q : Bool → Hp → Prop} (k : ∀ h', Ext h h' → Q (vHas v s) h') : crannogref09_Has v s Q h := has_ k
end Go.Lf
namespace Go.Lf
open Go.Crn
variable {h : Hp}
theorem rJ_step (n : Nat) (a b : A8 Int) (hn : n < 8) : (if (vJn n a b).at_ n < b.at_ n then (vJn n a b).put (n : Int) (b.at_ n) else vJn n a b) = vJn (n + 1) a b := by
  have h1 := vJn_step n a b hn
  rw [← h1]
  split
  · rename_i g
    have : iMax ((vJn n a b).at_ n) (b.at_ n) = b.at_ n := by unfold iMax; rw [if_pos g]
    rw [this]
  · rename_i g
    have : iMax ((vJn n a b).at_ n) (b.at_ n) = (vJn n a b).at_ n := by unfold iMax; rw [if_neg g]
    rw [this]
    match n, hn with
    | 0, _ | 1, _ | 2, _ | 3, _ | 4, _ | 5, _ | 6, _ | 7, _ => simp [vJn, vJoin, A8.ofL, A8.toL, A8.put, A8.at_]
theorem rjoin_ {a b : A8 Int} {Q : A8 Int → Hp → Prop} (k : ∀ h', Ext h h' → Q (vJoin a b) h') : crannogref09_Join a b Q h := by
  unfold crannogref09_Join
  refine al_ .start fun b1 h2 f e hb1 _ => al_ f fun b3 h4 f e _ _ => al_ f fun b5 h6 f e hb5 _ => ?_
  refine loop_ (fun m u h1 => ∃ n : Nat, n ≤ 8 ∧ u = ((n : Int), vJn n a b) ∧ m = 8 - n ∧ Fr h [b5, b3, b1] h h1) 8 ⟨0, by omega, rfl, rfl, f⟩ ?_
  rintro m u h1 ⟨n, hn, rfl, rfl, f⟩
  refine if_ (fun g => ?_) fun g => ?_
  · simp only [decide_eq_true_eq] at g
    have hs := rJ_step n a b (by omega)
    refine j_ ⟨by omega, by omega, if_ (fun g2 => ⟨by omega, by omega, st_ f (by simp) hb1 fun h2 f _ => ?_⟩) fun g2 => ?_⟩
    · rw [if_pos (by simpa using g2)] at hs
      exact ⟨8 - (n + 1), by omega, n + 1, by omega, by rw [hs, wi (by omega) (by omega)]; rfl, rfl, f⟩
    · rw [if_neg (by simpa using g2)] at hs
      exact ⟨8 - (n + 1), by omega, n + 1, by omega, by rw [hs, wi (by omega) (by omega)]; rfl, rfl, f⟩
  · simp only [decide_eq_false_iff_not] at g
    have : n = 8 := by omega
    subst this
    exact st_ f (by simp) hb5 fun h2 f _ => k _ f.e0
theorem gr_pos {S : Type} {c : S → S → Int} {a b : S} {v : S} (h : c a b < 0) (e : v = gr c a b) : v = b := by rw [e, gr, if_pos h]
theorem rattr_ {a b : S_api_Attr} {Q : S_api_Attr → Hp → Prop} (k : ∀ h', Ext h h' → Q (gr cAttr a b) h') : crannogref11_Attr a b Q h := by
  unfold crannogref11_Attr
  refine al_ .start fun b1 h2 f e _ _ => al_ f fun b3 h4 f e _ _ => al_ f fun b5 h6 f e hb5 _ => j_ (rless_ fun h8 e => kp_ f e (by simp) fun f => ?_)
  have kt : cAttr a b < 0 → StX h8 b5 fun h10 => Q b h10 := fun g => st_ f (by simp) hb5 fun h9 f _ => by
    have := k _ f.e0
    unfold gr at this
    rwa [if_pos g] at this
  have kf : ¬ cAttr a b < 0 → StX h8 b5 fun h10 => Q a h10 := fun g => st_ f (by simp) hb5 fun h9 f _ => by
    have := k _ f.e0
    unfold gr at this
    rwa [if_neg g] at this
  simp only [cAttr_lt] at kt kf
  refine if_ (fun g => if_true (kt (.inl (by simpa using g)))) fun g => if_ (fun g2 => if_ (fun g3 => if_true (kt ?_)) fun g3 => if_ (fun g4 => if_ (fun g5 => kt ?_) fun g5 => kf ?_) fun g4 => if_false (kf ?_)) fun g2 => if_false (kf ?_)
  all_goals simp only [decide_eq_true_eq, decide_eq_false_iff_not, S_api_Stamp.eqb_iff, beq_iff_eq] at *
  · exact .inr ⟨g2, .inl g3⟩
  · exact .inr ⟨g2, .inr ⟨g4, g5⟩⟩
  · rintro (h | ⟨_, h | ⟨_, h⟩⟩)
    · exact g h
    · exact g3 h
    · exact g5 h
  · rintro (h | ⟨_, h | ⟨h, _⟩⟩)
    · exact g h
    · exact g3 h
    · simp [h] at g4
  · rintro (h | ⟨h, _⟩)
    · exact g h
    · rw [S_api_Stamp.eqb_iff.2 h] at g2; cases g2
end Go.Lf
namespace Go.Lf
open Go.Crn
variable {h : Hp}
theorem eqb_ne {a b : S_api_Stamp} (h : S_api_Stamp.eqb a b = false) : a ≠ b := fun e => by rw [S_api_Stamp.eqb_iff.2 e] at h; cases h
theorem rsize_ {a b : S_api_Size} {Q : S_api_Size → Hp → Prop} (k : ∀ h', Ext h h' → Q (gr cSize a b) h') : crannogref11_Size a b Q h := by
  unfold crannogref11_Size
  refine al_ .start fun b1 h2 f e _ _ => al_ f fun b3 h4 f e _ _ => al_ f fun b5 h6 f e hb5 _ => j_ (rless_ fun h8 e => kp_ f e (by simp) fun f => ?_)
  have kt : cSize a b < 0 → StX h8 b5 fun h10 => Q b h10 := fun g => st_ f (by simp) hb5 fun h9 f _ => by
    have := k _ f.e0
    unfold gr at this
    rwa [if_pos g] at this
  have kf : ¬ cSize a b < 0 → StX h8 b5 fun h10 => Q a h10 := fun g => st_ f (by simp) hb5 fun h9 f _ => by
    have := k _ f.e0
    unfold gr at this
    rwa [if_neg g] at this
  simp only [cSize_lt] at kt kf
  refine if_ (fun g => if_true (kt (.inl (by simpa using g)))) fun g => if_ (fun g2 => if_ (fun g5 => kt ?_) fun g5 => kf ?_) fun g2 => if_false (kf ?_)
  all_goals simp only [decide_eq_true_eq, decide_eq_false_iff_not, S_api_Stamp.eqb_iff] at *
  · exact .inr ⟨g2, g5⟩
  · rintro (h | ⟨_, h⟩)
    · exact g h
    · exact g5 h
  · rintro (h | ⟨h, _⟩)
    · exact g h
    · exact eqb_ne g2 h
theorem rpiece_ {a b : S_api_Piece} {Q : S_api_Piece → Hp → Prop} (hl : b.Data.length < 2 ^ 63) (k : ∀ h', Ext h h' → Q (gr cPiece a b) h') : crannogref11_Piece a b Q h := by
  unfold crannogref11_Piece
  refine al_ .start fun b1 h2 f e _ _ => al_ f fun b3 h4 f e _ _ => al_ f fun b5 h6 f e hb5 _ => j_ (rless_ fun h8 e => kp_ f e (by simp) fun f => ?_)
  have kt : cPiece a b < 0 → StX h8 b5 fun h10 => Q b h10 := fun g => st_ f (by simp) hb5 fun h9 f _ => by
    have := k _ f.e0
    unfold gr at this
    rwa [if_pos g] at this
  have kf : ¬ cPiece a b < 0 → StX h8 b5 fun h10 => Q a h10 := fun g => st_ f (by simp) hb5 fun h9 f _ => by
    have := k _ f.e0
    unfold gr at this
    rwa [if_neg g] at this
  simp only [cPiece_lt] at kt kf
  refine if_ (fun g => if_true (kt (.inl (by simpa using g)))) fun g => if_ (fun g2 => rless_s_ hl <| kp_ f .refl (by simp) fun f => if_ (fun g5 => kt ?_) fun g5 => kf ?_) fun g2 => if_false (kf ?_)
  all_goals simp only [decide_eq_false_iff_not, S_api_Stamp.eqb_iff] at *
  · exact .inr ⟨g2, g5⟩
  · rintro (h | ⟨_, h⟩)
    · exact g h
    · rw [h] at g5; cases g5
  · rintro (h | ⟨h, _⟩)
    · exact g h
    · exact eqb_ne g2 h
theorem rxattr_ {a b : S_api_Xattr} {Q : S_api_Xattr → Hp → Prop} (hl : b.Val.length < 2 ^ 63) (k : ∀ h', Ext h h' → Q (gr cXattr a b) h') : crannogref11_Xattr a b Q h := by
  unfold crannogref11_Xattr
  refine al_ .start fun b1 h2 f e _ _ => al_ f fun b3 h4 f e _ _ => al_ f fun b5 h6 f e hb5 _ => j_ (rless_ fun h8 e => kp_ f e (by simp) fun f => ?_)
  have kt : cXattr a b < 0 → StX h8 b5 fun h10 => Q b h10 := fun g => st_ f (by simp) hb5 fun h9 f _ => by
    have := k _ f.e0
    unfold gr at this
    rwa [if_pos g] at this
  have kf : ¬ cXattr a b < 0 → StX h8 b5 fun h10 => Q a h10 := fun g => st_ f (by simp) hb5 fun h9 f _ => by
    have := k _ f.e0
    unfold gr at this
    rwa [if_neg g] at this
  simp only [cXattr_lt] at kt kf
  have hs : S_api_Stamp.eqb a.At b.At = true → ¬ cStamp a.At b.At < 0 → a.Gone = b.Gone → crannogref01_Less a.Val b.Val (fun r19 h20 => KpX h8 h20 [b5, b3, b1] <| If r19 (StX h20 b5 fun h10 => Q b h10) (StX h20 b5 fun h11 => Q a h11)) h8 := by
    intro g2 g gg
    rw [S_api_Stamp.eqb_iff] at g2
    refine rless_s_ hl <| kp_ f .refl (by simp) fun f => if_ (fun g5 => kt (.inr ⟨g2, .inr ⟨gg, g5⟩⟩)) fun g5 => kf ?_
    rintro (h | ⟨_, ⟨h1, h2⟩ | ⟨_, h⟩⟩)
    · exact g h
    · rw [h1, h2] at gg; cases gg
    · rw [h] at g5; cases g5
  refine if_ (fun g => if_true (kt (.inl (by simpa using g)))) fun g => if_ (fun g2 => if_ (fun g3 => if_ (fun g4 => if_true (kt ?_)) fun g4 => if_ (fun g5 => hs g2 (by simpa using g) (by simpa using g5)) fun g5 => ?_) fun g3 => if_ (fun g5 => hs g2 (by simpa using g) (by simpa using g5)) fun g5 => if_false (kf ?_)) fun g2 => if_false (kf ?_)
  · exact .inr ⟨S_api_Stamp.eqb_iff.1 g2, .inl ⟨by simpa using g3, g4⟩⟩
  · simp at g3; rw [g3, g4] at g5; simp at g5
  · simp at g3 g5 g
    rintro (h | ⟨_, ⟨h1, h2⟩ | ⟨h, _⟩⟩)
    · omega
    · rw [g3] at h1; cases h1
    · exact g5 h
  · simp at g
    rintro (h | ⟨h, _⟩)
    · omega
    · exact eqb_ne g2 h
end Go.Lf
namespace Go.Lf
open Go.Crn
variable {h : Hp}
theorem rstep_len {M : Type} {c : M → M → Int} {o : M → M → M} {nw : M → M} {x : M} : ∀ (l : List M) (s : List M × Bool), (l.foldl (rstep c o nw x) s).1.length ≤ s.1.length + l.length + 1 ∧ (s.2 = true → (l.foldl (rstep c o nw x) s).1.length ≤ s.1.length + l.length)
  | [], s => by simp
  | p :: l, s => by
    have ih := rstep_len (c := c) (o := o) (nw := nw) (x := x) l (rstep c o nw x s p)
    simp only [List.foldl_cons, List.length_cons]
    have key : ((rstep c o nw x s p).1.length = s.1.length + 1 ∧ (s.2 = true → (rstep c o nw x s p).2 = true)) ∨ ((rstep c o nw x s p).1.length = s.1.length + 2 ∧ (rstep c o nw x s p).2 = true ∧ s.2 = false) := by
      obtain ⟨s1, s2⟩ := s
      by_cases h1 : c p x = 0 <;> cases s2 <;> by_cases h2 : c x p < 0 <;> simp [rstep, h1, h2]
    rcases key with ⟨h1, h2⟩ | ⟨h1, h3, h4⟩
    · refine ⟨by omega, fun hs => by have := ih.2 (h2 hs); omega⟩
    · have := ih.2 h3
      exact ⟨by omega, fun hs => by rw [h4] at hs; cases hs⟩
theorem put_Piece {A : Nat → Prop} {a : Sl} {la : List S_api_Piece} {x : S_api_Piece} {Q : Sl → Hp → Prop} (ra : Rows A ePiece h a la) (hn : la.length < 2 ^ 35) (hd : x.Data.length < 2 ^ 63)
    (k : ∀ s' h', Ext h h' → Own ePiece h' s' (rput kPiece (gr cPiece) id la x) → (∀ i ∈ s'.blk, h.size ≤ i) → Q s' h') : crannogref11_put a x Q h := by
  unfold crannogref11_put
  have hal := ra.1
  refine al_ .start fun b1 h2 f2 e2 _ hb1 => ?_
  refine loop_ (fun m u h1 => ∃ i : Nat, i ≤ la.length ∧ u.2.2 = (i : Int) ∧ m = la.length - i ∧ u.2.1 = ((la.take i).foldl (rstep kPiece (gr cPiece) id x) ([], false)).2 ∧ Fr h [b1] h1 h1 ∧ Own ePiece h1 u.1 ((la.take i).foldl (rstep kPiece (gr cPiece) id x) ([], false)).1 ∧ (∀ j ∈ u.1.blk, h.size ≤ j ∧ j ≠ b1.block)) la.length
    ⟨0, by omega, rfl, by omega, rfl, f2.base, .nil, by simp [Sl.blk, Sl.nil]⟩ ?_
  rintro m ⟨out, done, u⟩ h5 ⟨i, hi, hu, rfl, hdn, f5, o5, b5⟩
  simp only at hu hdn o5 b5
  subst hu
  have hll := rstep_len (c := kPiece) (o := gr cPiece) (nw := id) (x := x) (la.take i) ([], false)
  have hti : (la.take i).length ≤ i := by rw [List.length_take]; omega
  simp only [List.length_nil] at hll
  refine if_ (fun g => ?_) fun g => ?_
  · simp only [decide_eq_true_eq] at g
    have hil : i < la.length := by omega
    have gp : la[i]? = some la[i] := by simp [hil]
    generalize la[i] = p at gp
    have hst : la.take (i + 1) = la.take i ++ [p] := by rw [List.take_add_one, gp]; rfl
    have hfo : (la.take (i + 1)).foldl (rstep kPiece (gr cPiece) id x) ([], false) = rstep kPiece (gr cPiece) id x ((la.take i).foldl (rstep kPiece (gr cPiece) id x) ([], false)) p := by rw [hst, List.foldl_append]; rfl
    generalize hS : (la.take i).foldl (rstep kPiece (gr cPiece) id x) ([], false) = s at *
    refine ixlda (ra.ext f5.e0) rfl gp fun q _ _ => al_ f5 fun b11 h12 f12 e12 hb11 _ => st_ f12 (by simp) hb11 fun h13 f13 x13 => ?_
    have hne : ∀ j ∈ out.blk, j < h5.size := o5.lt
    have hx0 : ∀ q d, (if kPiece p x = 0 then (gr cPiece p x, true) else (p, s.2)) = (q, d) → rstep kPiece (gr cPiece) id x s p = if !d && decide (kPiece x q < 0) then (s.1 ++ [x] ++ [q], true) else (s.1 ++ [q], d) := by
      intro q d hq
      simp only [rstep, hq, id]
    -- what is left when q and d are known
    have rest : ∀ (q : S_api_Piece) (d : Bool) h16, Fr h [b11, b1] h5 h16 → (if kPiece p x = 0 then (gr cPiece p x, true) else (p, s.2)) = (q, d) →
        ∀ K : Sl → Bool → Hp → Prop, (∀ s' d' h', Fr h [b1] h' h' → Own ePiece h' s' (rstep kPiece (gr cPiece) id x s p).1 → d' = (rstep kPiece (gr cPiece) id x s p).2 → (∀ j ∈ s'.blk, h.size ≤ j ∧ j ≠ b1.block) → K s' d' h') →
        J (fun (x17 : Sl × Bool) h19 =>
              Al h19 (List.flatten [S_api_Piece.cells q]) fun b20 h21 =>
              KpX h19 h21 [b1] <|
              AppS h21 x17.1 (Sl.mk (some b20) 1 1) 4 40 fun v22 h23 =>
              KpX h21 h23 [b1] <|
              K v22 x17.2 h23
          ) fun K18 =>
          J (fun (x24 : Bool) h26 =>
              If x24 (
                Al h26 (List.flatten [S_api_Piece.cells x]) fun b27 h28 =>
                KpX h26 h28 [b11, b1] <|
                AppS h28 out (Sl.mk (some b27) 1 1) 4 40 fun v29 h30 =>
                KpX h28 h30 [b11, b1] <|
                K18 (v29, true) h30
              ) (
                K18 (out, d) h26
              )
          ) fun K25 =>
          If (!d) (
            K25 (decide (q.Index > x.Index)) h16
          ) (
            K25 false h16
          ) := by
      intro q d h16 f16 hq K hK
      have hr := hx0 q d hq
      have hkx : decide (q.Index > x.Index) = decide (kPiece x q < 0) := by simp only [kPiece, cI_lt, gt_iff_lt]
      -- the element itself, behind one that may have been put
      have last : ∀ (o1 : Sl) (d1 : Bool) h19 (l1 : List S_api_Piece), Fr h [b1] h19 h19 → Own ePiece h19 o1 l1 → l1.length ≤ 2 ^ 36 → (∀ j ∈ o1.blk, h.size ≤ j ∧ j ≠ b1.block) → rstep kPiece (gr cPiece) id x s p = (l1 ++ [q], d1) →
          Al h19 (List.flatten [S_api_Piece.cells q]) fun b20 h21 => KpX h19 h21 [b1] <| AppS h21 o1 (Sl.mk (some b20) 1 1) 4 40 fun v22 h23 => KpX h21 h23 [b1] <| K v22 d1 h23 := by
        intro o1 d1 h19 l1 f19 o19 hl1 b19 hrr
        refine alv_ f19 fun b20 h21 f21 e21 r21 hb20 => kp_ f19 e21 (by simp) fun _ => ?_
        rw [List.flatten_singleton] at r21
        refine app1_ (e := ePiece) (o19.ext e21) r21 (by omega) (by omega) fun s' h23 x23 o23 b23 => kpa_ f21 x23 (by simp) ?_ ?_
        · intro b hb hj; simp at hb; subst hb; exact (b19 _ hj).2 rfl
        · refine hK s' d1 h23 (f21.ag x23 fun j hj => (b19 j hj).1) (by rw [hrr]; exact o23) (by rw [hrr]) fun j hj => ?_
          rcases b23 j hj with h | h
          · exact b19 j h
          · have := f21.e0.size; have := (f21.b0 b1 (by simp)).2
            exact ⟨by omega, by omega⟩
      have b1lt := (f5.b0 b1 (by simp)).2
      have oo : ∀ h26, Fr h [b11, b1] h5 h26 → Own ePiece h26 out s.1 := fun h26 f => o5.ext f.eA
      refine j_ (j_ (if_ (fun g1 => if_ (fun g2 => ?_) fun g2 => ?_) fun g1 => if_false ?_))
      · -- x is put ahead
        have hd0 : d = false := by simpa using g1
        rw [hkx] at g2
        refine alv_ f16 fun b27 h28 f28 e28 r28 hb27 => kp_ f16 e28 (by simp) fun _ => ?_
        rw [List.flatten_singleton] at r28
        have hb11' := hb11
        refine app1_ (e := ePiece) (oo h28 f28) r28 (by omega) (by omega) fun s' h30 x30 o30 b30 => kpa_ f28 x30 (by simp) ?_ ?_
        · intro b hb hj
          simp at hb
          rcases hb with rfl | rfl
          · have := hne _ hj; omega
          · exact (b5 _ hj).2 rfl
        · refine last s' true h30 (s.1 ++ [x]) ((f28.ag x30 fun j hj => (b5 j hj).1).drop (by simp)) o30 (by simp; omega) (fun j hj => ?_) (by rw [hr, hd0]; simp at g2; simp [g2])
          rcases b30 j hj with h | h
          · exact b5 j h
          · have := f28.e0.size; have := f28.eA.size
            exact ⟨by omega, by omega⟩
      · have hd0 : d = false := by simpa using g1
        rw [hkx] at g2
        exact last out d h16 s.1 (f16.base.drop (by simp)) (oo h16 f16) (by omega) b5 (by rw [hr, hd0]; simp at g2; simp [g2])
      · have hd0 : d = true := by simpa using g1
        exact last out d h16 s.1 (f16.base.drop (by simp)) (oo h16 f16) (by omega) b5 (by rw [hr, hd0]; simp)
    have hK : ∀ (s' : Sl) (d' : Bool) (h' : Hp), Fr h [b1] h' h' → Own ePiece h' s' (rstep kPiece (gr cPiece) id x s p).1 → d' = (rstep kPiece (gr cPiece) id x s p).2 → (∀ j ∈ s'.blk, h.size ≤ j ∧ j ≠ b1.block) →
        ∃ m', m' < la.length - i ∧ ∃ i_1, i_1 ≤ la.length ∧ IntKind.wrap .i64 ((i : Int) + 1) = (i_1 : Int) ∧ m' = la.length - i_1 ∧ d' = ((la.take i_1).foldl (rstep kPiece (gr cPiece) id x) ([], false)).2 ∧ Fr h [b1] h' h' ∧ Own ePiece h' s' ((la.take i_1).foldl (rstep kPiece (gr cPiece) id x) ([], false)).1 ∧ (∀ j ∈ s'.blk, h.size ≤ j ∧ j ≠ b1.block) := by
      intro s' d' h' a1 a2 a3 a4
      exact ⟨la.length - (i + 1), by omega, i + 1, by omega, by rw [wi (by omega) (by omega)]; rfl, rfl, by rw [hfo]; exact a3, a1, by rw [hfo]; exact a2, a4⟩
    have hkp : (p.Index == x.Index) = decide (kPiece p x = 0) := by rw [Bool.eq_iff_iff]; simp [kPiece, cI_eq]
    refine j_ (if_ (fun g2 => rpiece_ hd fun h33 e33 => kp_ f13 e33 (by simp) fun f33 => st_ f33 (by simp) hb11 fun h34 f34 _ => rest (gr cPiece p x) true h34 f34 ?_ _ hK) fun g2 => rest p done h13 f13 ?_ _ hK)
    · rw [hkp] at g2; simp at g2; rw [if_pos g2]
    · rw [hkp] at g2; simp at g2; rw [if_neg g2, hdn]
  · simp only [decide_eq_false_iff_not] at g
    have : i = la.length := by omega
    subst this
    rw [List.take_of_length_le (Nat.le_refl _)] at hdn o5 hll
    refine j_ (if_ (fun g2 => ?_) fun g2 => ?_)
    · refine alv_ f5 fun b27 h28 f28 e28 r28 hb27 => ?_
      rw [List.flatten_singleton] at r28
      refine app1_ (e := ePiece) (o5.ext e28) r28 (by omega) (by omega) fun s' h30 x30 o30 b30 => k s' h30 (f28.e0.over x30 fun j hj => (b5 j hj).1) ?_ fun j hj => ?_
      · have g2 : done = false := by simpa using g2
        rw [g2] at hdn
        simp only [rput]
        rw [if_neg (by rw [← hdn]; simp)]
        exact o30
      · rcases b30 j hj with h | h
        · exact (b5 j h).1
        · have := f28.e0.size; omega
    · have g2 : done = true := by simpa using g2
      rw [g2] at hdn
      refine k out h5 f5.e0 ?_ fun j hj => (b5 j hj).1
      simp only [rput]
      rw [if_pos hdn.symm]
      exact o5
end Go.Lf
namespace Go.Lf
open Go.Crn
variable {h : Hp}
theorem name_Xattr {A : Nat → Prop} {a : Sl} {la : List S_api_Xattr} {x : S_api_Xattr} {Q : Sl → Hp → Prop} (ra : Rows A eXattr h a la) (hn : la.length < 2 ^ 35) (hd : x.Val.length < 2 ^ 63) (hnm : x.Name.length < 2 ^ 63) (hnl : ∀ p ∈ la, p.Name.length < 2 ^ 63)
    (k : ∀ s' h', Ext h h' → Own eXattr h' s' (rput kXattr (gr cXattr) id la x) → (∀ i ∈ s'.blk, h.size ≤ i) → Q s' h') : crannogref11_name a x Q h := by
  unfold crannogref11_name
  have hal := ra.1
  refine al_ .start fun b1 h2 f2 e2 _ hb1 => ?_
  refine loop_ (fun m u h1 => ∃ i : Nat, i ≤ la.length ∧ u.2.2 = (i : Int) ∧ m = la.length - i ∧ u.2.1 = ((la.take i).foldl (rstep kXattr (gr cXattr) id x) ([], false)).2 ∧ Fr h [b1] h1 h1 ∧ Own eXattr h1 u.1 ((la.take i).foldl (rstep kXattr (gr cXattr) id x) ([], false)).1 ∧ (∀ j ∈ u.1.blk, h.size ≤ j ∧ j ≠ b1.block)) la.length
    ⟨0, by omega, rfl, by omega, rfl, f2.base, .nil, by simp [Sl.blk, Sl.nil]⟩ ?_
  rintro m ⟨out, done, u⟩ h5 ⟨i, hi, hu, rfl, hdn, f5, o5, b5⟩
  simp only at hu hdn o5 b5
  subst hu
  have hll := rstep_len (c := kXattr) (o := gr cXattr) (nw := id) (x := x) (la.take i) ([], false)
  have hti : (la.take i).length ≤ i := by rw [List.length_take]; omega
  simp only [List.length_nil] at hll
  refine if_ (fun g => ?_) fun g => ?_
  · simp only [decide_eq_true_eq] at g
    have hil : i < la.length := by omega
    have gp : la[i]? = some la[i] := by simp [hil]
    generalize la[i] = p at gp
    have hst : la.take (i + 1) = la.take i ++ [p] := by rw [List.take_add_one, gp]; rfl
    have hfo : (la.take (i + 1)).foldl (rstep kXattr (gr cXattr) id x) ([], false) = rstep kXattr (gr cXattr) id x ((la.take i).foldl (rstep kXattr (gr cXattr) id x) ([], false)) p := by rw [hst, List.foldl_append]; rfl
    generalize hS : (la.take i).foldl (rstep kXattr (gr cXattr) id x) ([], false) = s at *
    refine ixlda (ra.ext f5.e0) rfl gp fun q _ _ => al_ f5 fun b11 h12 f12 e12 hb11 _ => st_ f12 (by simp) hb11 fun h13 f13 x13 => ?_
    have hne : ∀ j ∈ out.blk, j < h5.size := o5.lt
    have hx0 : ∀ q d, (if kXattr p x = 0 then (gr cXattr p x, true) else (p, s.2)) = (q, d) → rstep kXattr (gr cXattr) id x s p = if !d && decide (kXattr x q < 0) then (s.1 ++ [x] ++ [q], true) else (s.1 ++ [q], d) := by
      intro q d hq
      simp only [rstep, hq, id]
    -- what is left when q and d are known
    have rest : ∀ (q : S_api_Xattr) (d : Bool) h16, Fr h [b11, b1] h5 h16 → (if kXattr p x = 0 then (gr cXattr p x, true) else (p, s.2)) = (q, d) →
        ∀ K : Sl → Bool → Hp → Prop, (∀ s' d' h', Fr h [b1] h' h' → Own eXattr h' s' (rstep kXattr (gr cXattr) id x s p).1 → d' = (rstep kXattr (gr cXattr) id x s p).2 → (∀ j ∈ s'.blk, h.size ≤ j ∧ j ≠ b1.block) → K s' d' h') →
        J (fun (x17 : Sl × Bool) h19 =>
              Al h19 (List.flatten [S_api_Xattr.cells q]) fun b20 h21 =>
              KpX h19 h21 [b1] <|
              AppS h21 x17.1 (Sl.mk (some b20) 1 1) 5 56 fun v22 h23 =>
              KpX h21 h23 [b1] <|
              K v22 x17.2 h23
          ) fun K18 =>
          J (fun (x24 : Bool) h26 =>
              If x24 (
                Al h26 (List.flatten [S_api_Xattr.cells x]) fun b27 h28 =>
                KpX h26 h28 [b11, b1] <|
                AppS h28 out (Sl.mk (some b27) 1 1) 5 56 fun v29 h30 =>
                KpX h28 h30 [b11, b1] <|
                K18 (v29, true) h30
              ) (
                K18 (out, d) h26
              )
          ) fun K25 =>
          If (!d) (
            crannogref01_Less x.Name q.Name (fun r32 h33 =>
              KpX h16 h33 [b11, b1] <|
              K25 r32 h33
            ) h16
          ) (
            K25 false h16
          ) := by
      intro q d h16 f16 hq K hK
      have hr := hx0 q d hq
      have hkx : sLt x.Name q.Name = decide (kXattr x q < 0) := by rw [Bool.eq_iff_iff]; simp only [kXattr, cS_lt, decide_eq_true_eq]
      have hqn : q.Name.length < 2 ^ 63 := by
        have hpn := hnl p (List.mem_of_getElem? gp)
        split at hq
        · have : q = gr cXattr p x := by cases hq; rfl
          rw [this, gr]; split
          · exact hnm
          · exact hpn
        · have : q = p := by cases hq; rfl
          rw [this]; exact hpn
      -- the element itself, behind one that may have been put
      have last : ∀ (o1 : Sl) (d1 : Bool) h19 (l1 : List S_api_Xattr), Fr h [b1] h19 h19 → Own eXattr h19 o1 l1 → l1.length ≤ 2 ^ 36 → (∀ j ∈ o1.blk, h.size ≤ j ∧ j ≠ b1.block) → rstep kXattr (gr cXattr) id x s p = (l1 ++ [q], d1) →
          Al h19 (List.flatten [S_api_Xattr.cells q]) fun b20 h21 => KpX h19 h21 [b1] <| AppS h21 o1 (Sl.mk (some b20) 1 1) 5 56 fun v22 h23 => KpX h21 h23 [b1] <| K v22 d1 h23 := by
        intro o1 d1 h19 l1 f19 o19 hl1 b19 hrr
        refine alv_ f19 fun b20 h21 f21 e21 r21 hb20 => kp_ f19 e21 (by simp) fun _ => ?_
        rw [List.flatten_singleton] at r21
        refine app1_ (e := eXattr) (o19.ext e21) r21 (by omega) (by omega) fun s' h23 x23 o23 b23 => kpa_ f21 x23 (by simp) ?_ ?_
        · intro b hb hj; simp at hb; subst hb; exact (b19 _ hj).2 rfl
        · refine hK s' d1 h23 (f21.ag x23 fun j hj => (b19 j hj).1) (by rw [hrr]; exact o23) (by rw [hrr]) fun j hj => ?_
          rcases b23 j hj with h | h
          · exact b19 j h
          · have := f21.e0.size; have := (f21.b0 b1 (by simp)).2
            exact ⟨by omega, by omega⟩
      have b1lt := (f5.b0 b1 (by simp)).2
      have oo : ∀ h26, Fr h [b11, b1] h5 h26 → Own eXattr h26 out s.1 := fun h26 f => o5.ext f.eA
      refine j_ (j_ (if_ (fun g1 => rless_s_ hqn <| kp_ f16 .refl (by simp) fun _ => if_ (fun g2 => ?_) fun g2 => ?_) fun g1 => if_false ?_))
      · -- x is put ahead
        have hd0 : d = false := by simpa using g1
        rw [hkx] at g2
        refine alv_ f16 fun b27 h28 f28 e28 r28 hb27 => kp_ f16 e28 (by simp) fun _ => ?_
        rw [List.flatten_singleton] at r28
        have hb11' := hb11
        refine app1_ (e := eXattr) (oo h28 f28) r28 (by omega) (by omega) fun s' h30 x30 o30 b30 => kpa_ f28 x30 (by simp) ?_ ?_
        · intro b hb hj
          simp at hb
          rcases hb with rfl | rfl
          · have := hne _ hj; omega
          · exact (b5 _ hj).2 rfl
        · refine last s' true h30 (s.1 ++ [x]) ((f28.ag x30 fun j hj => (b5 j hj).1).drop (by simp)) o30 (by simp; omega) (fun j hj => ?_) (by rw [hr, hd0]; simp at g2; simp [g2])
          rcases b30 j hj with h | h
          · exact b5 j h
          · have := f28.e0.size; have := f28.eA.size
            exact ⟨by omega, by omega⟩
      · have hd0 : d = false := by simpa using g1
        rw [hkx] at g2
        exact last out d h16 s.1 (f16.base.drop (by simp)) (oo h16 f16) (by omega) b5 (by rw [hr, hd0]; simp at g2; simp [g2])
      · have hd0 : d = true := by simpa using g1
        exact last out d h16 s.1 (f16.base.drop (by simp)) (oo h16 f16) (by omega) b5 (by rw [hr, hd0]; simp)
    have hK : ∀ (s' : Sl) (d' : Bool) (h' : Hp), Fr h [b1] h' h' → Own eXattr h' s' (rstep kXattr (gr cXattr) id x s p).1 → d' = (rstep kXattr (gr cXattr) id x s p).2 → (∀ j ∈ s'.blk, h.size ≤ j ∧ j ≠ b1.block) →
        ∃ m', m' < la.length - i ∧ ∃ i_1, i_1 ≤ la.length ∧ IntKind.wrap .i64 ((i : Int) + 1) = (i_1 : Int) ∧ m' = la.length - i_1 ∧ d' = ((la.take i_1).foldl (rstep kXattr (gr cXattr) id x) ([], false)).2 ∧ Fr h [b1] h' h' ∧ Own eXattr h' s' ((la.take i_1).foldl (rstep kXattr (gr cXattr) id x) ([], false)).1 ∧ (∀ j ∈ s'.blk, h.size ≤ j ∧ j ≠ b1.block) := by
      intro s' d' h' a1 a2 a3 a4
      exact ⟨la.length - (i + 1), by omega, i + 1, by omega, by rw [wi (by omega) (by omega)]; rfl, rfl, by rw [hfo]; exact a3, a1, by rw [hfo]; exact a2, a4⟩
    have hkp : (p.Name == x.Name) = decide (kXattr p x = 0) := by rw [Bool.eq_iff_iff]; simp [kXattr, cS_eq]
    refine j_ (if_ (fun g2 => rxattr_ hd fun h33 e33 => kp_ f13 e33 (by simp) fun f33 => st_ f33 (by simp) hb11 fun h34 f34 _ => rest (gr cXattr p x) true h34 f34 ?_ _ hK) fun g2 => rest p done h13 f13 ?_ _ hK)
    · rw [hkp] at g2; simp at g2; rw [if_pos g2]
    · rw [hkp] at g2; simp at g2; rw [if_neg g2, hdn]
  · simp only [decide_eq_false_iff_not] at g
    have : i = la.length := by omega
    subst this
    rw [List.take_of_length_le (Nat.le_refl _)] at hdn o5 hll
    refine j_ (if_ (fun g2 => ?_) fun g2 => ?_)
    · refine alv_ f5 fun b27 h28 f28 e28 r28 hb27 => ?_
      rw [List.flatten_singleton] at r28
      refine app1_ (e := eXattr) (o5.ext e28) r28 (by omega) (by omega) fun s' h30 x30 o30 b30 => k s' h30 (f28.e0.over x30 fun j hj => (b5 j hj).1) ?_ fun j hj => ?_
      · have g2 : done = false := by simpa using g2
        rw [g2] at hdn
        simp only [rput]
        rw [if_neg (by rw [← hdn]; simp)]
        exact o30
      · rcases b30 j hj with h | h
        · exact (b5 j h).1
        · have := f28.e0.size; omega
    · have g2 : done = true := by simpa using g2
      rw [g2] at hdn
      refine k out h5 f5.e0 ?_ fun j hj => (b5 j hj).1
      simp only [rput]
      rw [if_pos hdn.symm]
      exact o5
end Go.Lf
namespace Go.Lf
open Go.Crn
variable {h : Hp}
theorem rlink1_ {a b : S_api_Link} {Q : S_api_Link → Hp → Prop} (hl : b.Name.length < 2 ^ 63) (k : ∀ h', Ext h h' → Q (mLink a b) h') : crannogref11_Link a b Q h := by
  unfold crannogref11_Link
  refine al_ .start fun b1 h2 f e hb1 _ => al_ f fun b3 h4 f e _ _ => al_ f fun b5 h6 f e hb5 _ => al_ f fun b7 h8 f e hb7 _ => st_ f (by simp) hb7 fun h9 f9 _ => ?_
  -- the end: p is the one of two whose place stands
  have fin : ∀ (p : S_api_Link) h12, Fr h [b7, b5, b3, b1] h h12 → p.Id = a.Id → p.At = (gr cPlace a b).At → p.Parent = (gr cPlace a b).Parent → p.Name = (gr cPlace a b).Name →
      crannogref09_Later a.Node b.Node (fun r13 h14 =>
        KpX h12 h14 [b7, b5, b3, b1] <|
        StX h14 b7 fun h15 =>
        crannogref09_Join a.Alive b.Alive (fun r16 h17 =>
          KpX h15 h17 [b7, b5, b3, b1] <|
          StX h17 b7 fun h18 =>
          crannogref09_Join a.Dead b.Dead (fun r19 h20 =>
            KpX h18 h20 [b7, b5] <|
            StX h20 b7 fun h21 =>
            StX h21 b5 fun h22 =>
            Q (S_api_Link.mk p.Id r13 p.At p.Parent p.Name r16 r19) h22
          ) h18
        ) h15
      ) h12 := by
    intro p h12 f12 p1 p2 p3 p4
    refine later_ fun _ e => kp_ f12 e (by simp) fun f => st_ f (by simp) hb7 fun _ f _ => rjoin_ fun _ e => kp_ f e (by simp) fun f => st_ f (by simp) hb7 fun _ f _ => rjoin_ fun _ e => kp_ f e (by simp) fun f => st_ f (by simp) hb7 fun _ f _ => st_ f (by simp) hb5 fun h22 f22 _ => ?_
    have := k h22 f22.e0
    rw [p1, p2, p3, p4]
    exact this
  have kt : cPlace a b < 0 → ∀ h25, Fr h [b7, b5, b3, b1] h h25 → StX h25 b7 fun h26 => StX h26 b7 fun h27 => StX h27 b7 fun h28 => _ := fun g h25 f => st_ f (by simp) hb7 fun _ f _ => st_ f (by simp) hb7 fun _ f _ => st_ f (by simp) hb7 fun h28 f _ => fin ⟨a.Id, a.Node, b.At, b.Parent, b.Name, a.Alive, a.Dead⟩ h28 f rfl (by rw [gr, if_pos g]) (by rw [gr, if_pos g]) (by rw [gr, if_pos g])
  have kf : ¬ cPlace a b < 0 → ∀ h25, Fr h [b7, b5, b3, b1] h h25 → _ := fun g h25 f => fin a h25 f rfl (by rw [gr, if_neg g]) (by rw [gr, if_neg g]) (by rw [gr, if_neg g])
  simp only [cPlace_lt] at kt kf
  refine j_ (j_ (rless_ fun h30 e30 => kp_ f9 e30 (by simp) fun f => if_ (fun g => if_true (kt (.inl (by simpa using g)) _ f)) fun g => if_ (fun g2 => rless_ fun h34 e34 => kp_ f e34 (by simp) fun f => if_ (fun g3 => if_true (kt ?_ _ f)) fun g3 => if_ (fun g4 => rless_s_ hl <| kp_ f .refl (by simp) fun f => if_ (fun g5 => kt ?_ _ f) fun g5 => kf ?_ _ f) fun g4 => if_false (kf ?_ _ f)) fun g2 => if_false (kf ?_ _ f)))
  all_goals simp only [decide_eq_true_eq, decide_eq_false_iff_not, S_api_Stamp.eqb_iff] at *
  · exact .inr ⟨g2, .inl g3⟩
  · exact .inr ⟨g2, .inr ⟨g4, g5⟩⟩
  · rintro (h | ⟨_, h | ⟨_, h⟩⟩)
    · exact g h
    · exact g3 h
    · rw [h] at g5; cases g5
  · rintro (h | ⟨_, h | ⟨h, _⟩⟩)
    · exact g h
    · exact g3 h
    · exact eqb_ne g4 h
  · rintro (h | ⟨h, _⟩)
    · exact g h
    · exact eqb_ne g2 h
end Go.Lf
namespace Go.Lf
open Go.Crn
variable {h : Hp}
theorem link_Link {A : Nat → Prop} {a : Sl} {la : List S_api_Link} {x : S_api_Link} {Q : Sl → Hp → Prop} (ra : Rows A eLink h a la) (hn : la.length < 2 ^ 35) (hd : x.Name.length < 2 ^ 63)
    (k : ∀ s' h', Ext h h' → Own eLink h' s' (rput kLink mLink id la x) → (∀ i ∈ s'.blk, h.size ≤ i) → Q s' h') : crannogref11_link a x Q h := by
  unfold crannogref11_link
  have hal := ra.1
  refine al_ .start fun b1 h2 f2 e2 _ hb1 => ?_
  refine loop_ (fun m u h1 => ∃ i : Nat, i ≤ la.length ∧ u.2.2 = (i : Int) ∧ m = la.length - i ∧ u.2.1 = ((la.take i).foldl (rstep kLink mLink id x) ([], false)).2 ∧ Fr h [b1] h1 h1 ∧ Own eLink h1 u.1 ((la.take i).foldl (rstep kLink mLink id x) ([], false)).1 ∧ (∀ j ∈ u.1.blk, h.size ≤ j ∧ j ≠ b1.block)) la.length
    ⟨0, by omega, rfl, by omega, rfl, f2.base, .nil, by simp [Sl.blk, Sl.nil]⟩ ?_
  rintro m ⟨out, done, u⟩ h5 ⟨i, hi, hu, rfl, hdn, f5, o5, b5⟩
  simp only at hu hdn o5 b5
  subst hu
  have hll := rstep_len (c := kLink) (o := mLink) (nw := id) (x := x) (la.take i) ([], false)
  have hti : (la.take i).length ≤ i := by rw [List.length_take]; omega
  simp only [List.length_nil] at hll
  refine if_ (fun g => ?_) fun g => ?_
  · simp only [decide_eq_true_eq] at g
    have hil : i < la.length := by omega
    have gp : la[i]? = some la[i] := by simp [hil]
    generalize la[i] = p at gp
    have hst : la.take (i + 1) = la.take i ++ [p] := by rw [List.take_add_one, gp]; rfl
    have hfo : (la.take (i + 1)).foldl (rstep kLink mLink id x) ([], false) = rstep kLink mLink id x ((la.take i).foldl (rstep kLink mLink id x) ([], false)) p := by rw [hst, List.foldl_append]; rfl
    generalize hS : (la.take i).foldl (rstep kLink mLink id x) ([], false) = s at *
    refine ixlda (ra.ext f5.e0) rfl gp fun q _ _ => al_ f5 fun b11 h12 f12 e12 hb11 _ => st_ f12 (by simp) hb11 fun h13 f13 x13 => ?_
    have hne : ∀ j ∈ out.blk, j < h5.size := o5.lt
    have hx0 : ∀ q d, (if kLink p x = 0 then (mLink p x, true) else (p, s.2)) = (q, d) → rstep kLink mLink id x s p = if !d && decide (kLink x q < 0) then (s.1 ++ [x] ++ [q], true) else (s.1 ++ [q], d) := by
      intro q d hq
      simp only [rstep, hq, id]
    -- what is left when q and d are known
    have rest : ∀ (q : S_api_Link) (d : Bool) h16, Fr h [b11, b1] h5 h16 → (if kLink p x = 0 then (mLink p x, true) else (p, s.2)) = (q, d) →
        ∀ K : Sl → Bool → Hp → Prop, (∀ s' d' h', Fr h [b1] h' h' → Own eLink h' s' (rstep kLink mLink id x s p).1 → d' = (rstep kLink mLink id x s p).2 → (∀ j ∈ s'.blk, h.size ≤ j ∧ j ≠ b1.block) → K s' d' h') →
        J (fun (x17 : Sl × Bool) h19 =>
              Al h19 (List.flatten [S_api_Link.cells q]) fun b20 h21 =>
              KpX h19 h21 [b1] <|
              AppS h21 x17.1 (Sl.mk (some b20) 1 1) 25 208 fun v22 h23 =>
              KpX h21 h23 [b1] <|
              K v22 x17.2 h23
          ) fun K18 =>
          J (fun (x24 : Bool) h26 =>
              If x24 (
                Al h26 (List.flatten [S_api_Link.cells x]) fun b27 h28 =>
                KpX h26 h28 [b11, b1] <|
                AppS h28 out (Sl.mk (some b27) 1 1) 25 208 fun v29 h30 =>
                KpX h28 h30 [b11, b1] <|
                K18 (v29, true) h30
              ) (
                K18 (out, d) h26
              )
          ) fun K25 =>
          If (!d) (
            crannogref09_Less x.Id q.Id (fun r32 h33 =>
              KpX h16 h33 [b11, b1] <|
              K25 r32 h33
            ) h16
          ) (
            K25 false h16
          ) := by
      intro q d h16 f16 hq K hK
      have hr := hx0 q d hq
      have hkx : decide (cStamp x.Id q.Id < 0) = decide (kLink x q < 0) := rfl
      -- the element itself, behind one that may have been put
      have last : ∀ (o1 : Sl) (d1 : Bool) h19 (l1 : List S_api_Link), Fr h [b1] h19 h19 → Own eLink h19 o1 l1 → l1.length ≤ 2 ^ 36 → (∀ j ∈ o1.blk, h.size ≤ j ∧ j ≠ b1.block) → rstep kLink mLink id x s p = (l1 ++ [q], d1) →
          Al h19 (List.flatten [S_api_Link.cells q]) fun b20 h21 => KpX h19 h21 [b1] <| AppS h21 o1 (Sl.mk (some b20) 1 1) 25 208 fun v22 h23 => KpX h21 h23 [b1] <| K v22 d1 h23 := by
        intro o1 d1 h19 l1 f19 o19 hl1 b19 hrr
        refine alv_ f19 fun b20 h21 f21 e21 r21 hb20 => kp_ f19 e21 (by simp) fun _ => ?_
        rw [List.flatten_singleton] at r21
        refine app1_ (e := eLink) (o19.ext e21) r21 (by omega) (by omega) fun s' h23 x23 o23 b23 => kpa_ f21 x23 (by simp) ?_ ?_
        · intro b hb hj; simp at hb; subst hb; exact (b19 _ hj).2 rfl
        · refine hK s' d1 h23 (f21.ag x23 fun j hj => (b19 j hj).1) (by rw [hrr]; exact o23) (by rw [hrr]) fun j hj => ?_
          rcases b23 j hj with h | h
          · exact b19 j h
          · have := f21.e0.size; have := (f21.b0 b1 (by simp)).2
            exact ⟨by omega, by omega⟩
      have b1lt := (f5.b0 b1 (by simp)).2
      have oo : ∀ h26, Fr h [b11, b1] h5 h26 → Own eLink h26 out s.1 := fun h26 f => o5.ext f.eA
      refine j_ (j_ (if_ (fun g1 => rless_ fun h16 e16 => kp_ f16 e16 (by simp) fun f16 => if_ (fun g2 => ?_) fun g2 => ?_) fun g1 => if_false ?_))
      · -- x is put ahead
        have hd0 : d = false := by simpa using g1
        rw [hkx] at g2
        refine alv_ f16 fun b27 h28 f28 e28 r28 hb27 => kp_ f16 e28 (by simp) fun _ => ?_
        rw [List.flatten_singleton] at r28
        have hb11' := hb11
        refine app1_ (e := eLink) (oo h28 f28) r28 (by omega) (by omega) fun s' h30 x30 o30 b30 => kpa_ f28 x30 (by simp) ?_ ?_
        · intro b hb hj
          simp at hb
          rcases hb with rfl | rfl
          · have := hne _ hj; omega
          · exact (b5 _ hj).2 rfl
        · refine last s' true h30 (s.1 ++ [x]) ((f28.ag x30 fun j hj => (b5 j hj).1).drop (by simp)) o30 (by simp; omega) (fun j hj => ?_) (by rw [hr, hd0]; simp at g2; simp [g2])
          rcases b30 j hj with h | h
          · exact b5 j h
          · have := f28.e0.size; have := f28.eA.size
            exact ⟨by omega, by omega⟩
      · have hd0 : d = false := by simpa using g1
        rw [hkx] at g2
        exact last out d h16 s.1 (f16.base.drop (by simp)) (oo h16 f16) (by omega) b5 (by rw [hr, hd0]; simp at g2; simp [g2])
      · have hd0 : d = true := by simpa using g1
        exact last out d h16 s.1 (f16.base.drop (by simp)) (oo h16 f16) (by omega) b5 (by rw [hr, hd0]; simp)
    have hK : ∀ (s' : Sl) (d' : Bool) (h' : Hp), Fr h [b1] h' h' → Own eLink h' s' (rstep kLink mLink id x s p).1 → d' = (rstep kLink mLink id x s p).2 → (∀ j ∈ s'.blk, h.size ≤ j ∧ j ≠ b1.block) →
        ∃ m', m' < la.length - i ∧ ∃ i_1, i_1 ≤ la.length ∧ IntKind.wrap .i64 ((i : Int) + 1) = (i_1 : Int) ∧ m' = la.length - i_1 ∧ d' = ((la.take i_1).foldl (rstep kLink mLink id x) ([], false)).2 ∧ Fr h [b1] h' h' ∧ Own eLink h' s' ((la.take i_1).foldl (rstep kLink mLink id x) ([], false)).1 ∧ (∀ j ∈ s'.blk, h.size ≤ j ∧ j ≠ b1.block) := by
      intro s' d' h' a1 a2 a3 a4
      exact ⟨la.length - (i + 1), by omega, i + 1, by omega, by rw [wi (by omega) (by omega)]; rfl, rfl, by rw [hfo]; exact a3, a1, by rw [hfo]; exact a2, a4⟩
    have hkp : (S_api_Stamp.eqb p.Id x.Id) = decide (kLink p x = 0) := by rw [Bool.eq_iff_iff, S_api_Stamp.eqb_iff, decide_eq_true_eq]; exact cStamp_eq.symm
    refine j_ (if_ (fun g2 => rlink1_ hd fun h33 e33 => kp_ f13 e33 (by simp) fun f33 => st_ f33 (by simp) hb11 fun h34 f34 _ => rest (mLink p x) true h34 f34 ?_ _ hK) fun g2 => rest p done h13 f13 ?_ _ hK)
    · rw [hkp] at g2; simp at g2; rw [if_pos g2]
    · rw [hkp] at g2; simp at g2; rw [if_neg g2, hdn]
  · simp only [decide_eq_false_iff_not] at g
    have : i = la.length := by omega
    subst this
    rw [List.take_of_length_le (Nat.le_refl _)] at hdn o5 hll
    refine j_ (if_ (fun g2 => ?_) fun g2 => ?_)
    · refine alv_ f5 fun b27 h28 f28 e28 r28 hb27 => ?_
      rw [List.flatten_singleton] at r28
      refine app1_ (e := eLink) (o5.ext e28) r28 (by omega) (by omega) fun s' h30 x30 o30 b30 => k s' h30 (f28.e0.over x30 fun j hj => (b5 j hj).1) ?_ fun j hj => ?_
      · have g2 : done = false := by simpa using g2
        rw [g2] at hdn
        simp only [rput]
        rw [if_neg (by rw [← hdn]; simp)]
        exact o30
      · rcases b30 j hj with h | h
        · exact (b5 j h).1
        · have := f28.e0.size; omega
    · have g2 : done = true := by simpa using g2
      rw [g2] at hdn
      refine k out h5 f5.e0 ?_ fun j hj => (b5 j hj).1
      simp only [rput]
      rw [if_pos hdn.symm]
      exact o5
end Go.Lf
namespace Go.Lf
open Go.Crn
variable {h : Hp}
theorem rput_len1 {M : Type} {c : M → M → Int} {o : M → M → M} (l : List M) (x : M) : (rput c o id l x).length ≤ l.length + 2 := by
  have := (rstep_len (c := c) (o := o) (nw := id) (x := x) l ([], false)).1
  simp only [rput]
  split
  · simp at this; omega
  · simp at this ⊢; omega
/-- what lies behind h0's end, but in no box -/
def Nu (h0 : Hp) (bs : List Addr) (hh : Hp) (i : Nat) : Prop := h0.size ≤ i ∧ i < hh.size ∧ ∀ b ∈ bs, i ≠ b.block
theorem rows_nu {S : Type} {e : Elt S} {h0 h1 h2 hA : Hp} {bs cs : List Addr} {s : Sl} {l : List S} (o : Own e h2 s l) (f1 : Fr h0 cs hA h1) (hs : ∀ b ∈ bs, b ∈ cs) (e12 : Ext h1 h2) (hb : ∀ i ∈ s.blk, h1.size ≤ i) : Rows (Nu h0 bs h2) e h2 s l :=
  o.rows.weak fun i hi => ⟨Nat.le_trans f1.e0.size (hb i hi), o.lt i hi, fun b hbb => by
    have := (f1.b0 b (hs b hbb)).2; have := hb i hi; omega⟩
theorem rows_nu_st {S : Type} {e : Elt S} {h0 h1 h2 : Hp} {bs : List Addr} {s : Sl} {l : List S} {b : Addr} (r : Rows (Nu h0 bs h1) e h1 s l) (hb : b ∈ bs) (x : Ag [b.block] h1 h2) : Rows (Nu h0 bs h2) e h2 s l :=
  (r.ag x fun i hi hA => by simp at hi; exact hA.2.2 b hb hi).weak fun i hA => ⟨hA.1, Nat.lt_of_lt_of_le hA.2.1 x.size, hA.2.2⟩
theorem rows_nu_ext {S : Type} {e : Elt S} {h0 h1 h2 : Hp} {bs : List Addr} {s : Sl} {l : List S} (r : Rows (Nu h0 bs h1) e h1 s l) (x : Ext h1 h2) : Rows (Nu h0 bs h2) e h2 s l :=
  (r.ext x).weak fun i hA => ⟨hA.1, Nat.lt_of_lt_of_le hA.2.1 x.size, hA.2.2⟩
theorem rput_mem {M : Type} {c d : M → M → Int} {l : List M} {x y : M} (hy : y ∈ rput c (gr d) id l x) : y ∈ l ∨ y = x := by
  have key : ∀ (l : List M) (s : List M × Bool), (∀ z ∈ (l.foldl (rstep c (gr d) id x) s).1, z ∈ s.1 ∨ z ∈ l ∨ z = x) := by
    intro l
    induction l with
    | nil => intro s z hz; exact .inl hz
    | cons p l ih =>
      intro s z hz
      rcases ih _ z hz with h | h | h
      · have : z ∈ s.1 ∨ z = p ∨ z = x := by
          have hg := gr_or (c := d) (a := p) (b := x)
          obtain ⟨s1, s2⟩ := s
          by_cases h1 : c p x = 0 <;> cases s2 <;> by_cases h2 : c x p < 0 <;> simp [rstep, h1, h2] at h <;> grind
        rcases this with h | h | h
        · exact .inl h
        · exact .inr (.inl (by simp [h]))
        · exact .inr (.inr h)
      · exact .inr (.inl (by simp [h]))
      · exact .inr (.inr h)
  have h1 := key l ([], false)
  simp only [rput] at hy
  split at hy
  · rcases h1 y hy with h | h | h
    · simp at h
    · exact .inl h
    · exact .inr h
  · rcases List.mem_append.1 hy with hy | hy
    · rcases h1 y hy with h | h | h
      · simp at h
      · exact .inl h
      · exact .inr h
    · simp at hy; exact .inr hy
theorem rputs_mem {M : Type} {c d : M → M → Int} : ∀ (k l : List M) {y : M}, y ∈ k.foldl (rput c (gr d) id) l → y ∈ l ∨ y ∈ k
  | [], l, y, hy => .inl hy
  | x :: k, l, y, hy => by
    rcases rputs_mem k _ hy with h | h
    · rcases rput_mem h with h | h
      · exact .inl h
      · exact .inr (by simp [h])
    · exact .inr (by simp [h])
end Go.Lf
namespace Go.Lf
open Go.Crn
variable {h : Hp}
def setP (x : S_api_Inode) (s : Sl) : S_api_Inode := ⟨x.Id, x.Kind, x.Text, x.Attr, x.Size, s, x.Xattrs⟩
def setX (x : S_api_Inode) (s : Sl) : S_api_Inode := ⟨x.Id, x.Kind, x.Text, x.Attr, x.Size, x.Pieces, s⟩
/-- pieces put, one by one -/
theorem nodeP_ {A : Nat → Prop} {h0 h1 : Hp} {bs kb : List Addr} {b7 : Addr} {sp : Sl} {lp l0 : List S_api_Piece} {acc : S_api_Inode} {K : Int × S_api_Inode → Hp → Prop}
    (hA : ∀ i, A i → i < h0.size) (f : Fr h0 bs h1 h1) (h7 : b7 ∈ bs) (hkb : ∀ b ∈ kb, b ∈ bs) (rp : Rows A ePiece h0 sp lp) (ra : Rows (Nu h0 bs h1) ePiece h1 acc.Pieces l0) (hd : ∀ p ∈ lp, p.Data.length < 2 ^ 63) (hn : l0.length + 2 * lp.length < 2 ^ 35)
    (k : ∀ s hh, Fr h0 bs hh hh → Ext h0 hh → (∀ (S : Type) (e : Elt S) (s : Sl) (l : List S), Rows (Nu h0 bs h1) e h1 s l → Rows (Nu h0 bs hh) e hh s l) → Rows (Nu h0 bs hh) ePiece hh s (lp.foldl (rput kPiece (gr cPiece) id) l0) → K ((sp.len : Int), setP acc s) hh) :
    LoopF (σ := Int × S_api_Inode) (0, acc) h1 fun u19 h21 L20 =>
            If (decide (u19.1 < (sp.len : Int))) (
              Ix sp u19.1 4 fun p23 =>
              LdA S_api_Piece.cells h21 p23 fun v25 =>
              AlX h21 fun b27 h28 =>
              StX h28 b27 fun h29 =>
              crannogref11_put u19.2.Pieces v25 (fun r30 h31 =>
                KpX h29 h31 kb <|
                StX h31 b7 fun h32 =>
                L20 (IntKind.wrap .i64 (u19.1 + (1 : Int)), (S_api_Inode.mk u19.2.Id u19.2.Kind u19.2.Text u19.2.Attr u19.2.Size r30 u19.2.Xattrs)) h32
              ) h29
            ) (K u19 h21) := by
  have hsl := rp.1
  have flen : ∀ (l : List S_api_Piece) (s : List S_api_Piece), (l.foldl (rput kPiece (gr cPiece) id) s).length ≤ s.length + 2 * l.length := by
    intro l
    induction l with
    | nil => intro s; simp
    | cons x l ih =>
      intro s
      have h1 := ih (rput kPiece (gr cPiece) id s x)
      have h2 := rput_len1 (c := kPiece) (o := gr cPiece) s x
      simp only [List.foldl_cons, List.length_cons]; omega
  refine loop_ (fun m u hh => ∃ (i : Nat) (s : Sl), i ≤ lp.length ∧ u = ((i : Int), setP acc s) ∧ m = lp.length - i ∧ Fr h0 bs hh hh ∧ (∀ (S : Type) (e : Elt S) (s : Sl) (l : List S), Rows (Nu h0 bs h1) e h1 s l → Rows (Nu h0 bs hh) e hh s l) ∧ Rows (Nu h0 bs hh) ePiece hh s ((lp.take i).foldl (rput kPiece (gr cPiece) id) l0)) lp.length
    ⟨0, acc.Pieces, by omega, rfl, by omega, f, fun _ _ _ _ h => h, by simpa using ra⟩ ?_
  rintro m u hh ⟨i, s, hi, rfl, rfl, f1, t1, r1⟩
  refine if_ (fun g => ?_) fun g => ?_
  · simp only [decide_eq_true_eq] at g
    have hil : i < lp.length := by omega
    have gp : lp[i]? = some lp[i] := by simp [hil]
    have hmem : lp[i] ∈ lp := by simp
    generalize lp[i] = p at gp hmem
    have hst : lp.take (i + 1) = lp.take i ++ [p] := by rw [List.take_add_one, gp]; rfl
    have hl := flen (lp.take i) l0
    have hti : (lp.take i).length ≤ i := by rw [List.length_take]; omega
    refine ixlda (rp.ext f1.e0) rfl gp fun q _ _ => al_ f1 fun b27 h28 f28 e28 hb27 _ => st_ f28 (by simp) hb27 fun h29 f29 x29 => ?_
    have r29 := rows_nu_ext r1 f29.eA
    refine put_Piece r29 (by omega) (hd p hmem) fun s' h31 e31 o31 b31 => kp_ f29 e31 (fun b hb => by simp [hkb b hb]) fun f31 => st0_ f31 (by simp [h7]) fun h32 f32 x32 => ?_
    refine ⟨lp.length - (i + 1), by omega, i + 1, s', by omega, ?_, rfl, f32.drop (fun b hb => by simp [hb]), ?_, ?_⟩
    · rw [wi (by omega) (by omega)]; rfl
    · intro S e s l r
      exact rows_nu_st (rows_nu_ext (t1 S e s l r) f31.eA) h7 x32
    · rw [hst, List.foldl_append]
      exact rows_nu_st (rows_nu o31 f29 (fun b hb => by simp [hb]) e31 b31) h7 x32
  · simp only [decide_eq_false_iff_not] at g
    have : i = lp.length := by omega
    subst this
    rw [List.take_of_length_le (Nat.le_refl _)] at r1
    rw [← hsl]
    exact k s hh f1 f1.e0 t1 r1
end Go.Lf
namespace Go.Lf
open Go.Crn
variable {h : Hp}
/-- xattrs put, one by one -/
theorem nodeX_ {A : Nat → Prop} {h0 h1 : Hp} {bs kb : List Addr} {b7 : Addr} {sp : Sl} {lp l0 : List S_api_Xattr} {acc : S_api_Inode} {K : Int × S_api_Inode → Hp → Prop}
    (hA : ∀ i, A i → i < h0.size) (f : Fr h0 bs h1 h1) (h7 : b7 ∈ bs) (hkb : ∀ b ∈ kb, b ∈ bs) (rp : Rows A eXattr h0 sp lp) (ra : Rows (Nu h0 bs h1) eXattr h1 acc.Xattrs l0) (hd : ∀ p ∈ lp, p.Name.length < 2 ^ 63 ∧ p.Val.length < 2 ^ 63) (h0n : ∀ p ∈ l0, p.Name.length < 2 ^ 63) (hn : l0.length + 2 * lp.length < 2 ^ 35)
    (k : ∀ s hh, Fr h0 bs hh hh → Ext h0 hh → (∀ (S : Type) (e : Elt S) (s : Sl) (l : List S), Rows (Nu h0 bs h1) e h1 s l → Rows (Nu h0 bs hh) e hh s l) → Rows (Nu h0 bs hh) eXattr hh s (lp.foldl (rput kXattr (gr cXattr) id) l0) → K ((sp.len : Int), setX acc s) hh) :
    LoopF (σ := Int × S_api_Inode) (0, acc) h1 fun u19 h21 L20 =>
            If (decide (u19.1 < (sp.len : Int))) (
              Ix sp u19.1 5 fun p23 =>
              LdA S_api_Xattr.cells h21 p23 fun v25 =>
              AlX h21 fun b27 h28 =>
              StX h28 b27 fun h29 =>
              crannogref11_name u19.2.Xattrs v25 (fun r30 h31 =>
                KpX h29 h31 kb <|
                StX h31 b7 fun h32 =>
                L20 (IntKind.wrap .i64 (u19.1 + (1 : Int)), (S_api_Inode.mk u19.2.Id u19.2.Kind u19.2.Text u19.2.Attr u19.2.Size u19.2.Pieces r30)) h32
              ) h29
            ) (K u19 h21) := by
  have hsl := rp.1
  have flen : ∀ (l : List S_api_Xattr) (s : List S_api_Xattr), (l.foldl (rput kXattr (gr cXattr) id) s).length ≤ s.length + 2 * l.length := by
    intro l
    induction l with
    | nil => intro s; simp
    | cons x l ih =>
      intro s
      have h1 := ih (rput kXattr (gr cXattr) id s x)
      have h2 := rput_len1 (c := kXattr) (o := gr cXattr) s x
      simp only [List.foldl_cons, List.length_cons]; omega
  refine loop_ (fun m u hh => ∃ (i : Nat) (s : Sl), i ≤ lp.length ∧ u = ((i : Int), setX acc s) ∧ m = lp.length - i ∧ Fr h0 bs hh hh ∧ (∀ (S : Type) (e : Elt S) (s : Sl) (l : List S), Rows (Nu h0 bs h1) e h1 s l → Rows (Nu h0 bs hh) e hh s l) ∧ Rows (Nu h0 bs hh) eXattr hh s ((lp.take i).foldl (rput kXattr (gr cXattr) id) l0)) lp.length
    ⟨0, acc.Xattrs, by omega, rfl, by omega, f, fun _ _ _ _ h => h, by simpa using ra⟩ ?_
  rintro m u hh ⟨i, s, hi, rfl, rfl, f1, t1, r1⟩
  refine if_ (fun g => ?_) fun g => ?_
  · simp only [decide_eq_true_eq] at g
    have hil : i < lp.length := by omega
    have gp : lp[i]? = some lp[i] := by simp [hil]
    have hmem : lp[i] ∈ lp := by simp
    generalize lp[i] = p at gp hmem
    have hst : lp.take (i + 1) = lp.take i ++ [p] := by rw [List.take_add_one, gp]; rfl
    have hl := flen (lp.take i) l0
    have hti : (lp.take i).length ≤ i := by rw [List.length_take]; omega
    refine ixlda (rp.ext f1.e0) rfl gp fun q _ _ => al_ f1 fun b27 h28 f28 e28 hb27 _ => st_ f28 (by simp) hb27 fun h29 f29 x29 => ?_
    have r29 := rows_nu_ext r1 f29.eA
    refine name_Xattr r29 (by omega) (hd p hmem).2 (hd p hmem).1 (fun y hy => by
      rcases rputs_mem _ _ hy with h | h
      · exact h0n y h
      · exact (hd y (List.mem_of_mem_take h)).1) fun s' h31 e31 o31 b31 => kp_ f29 e31 (fun b hb => by simp [hkb b hb]) fun f31 => st0_ f31 (by simp [h7]) fun h32 f32 x32 => ?_
    refine ⟨lp.length - (i + 1), by omega, i + 1, s', by omega, ?_, rfl, f32.drop (fun b hb => by simp [hb]), ?_, ?_⟩
    · rw [wi (by omega) (by omega)]; rfl
    · intro S e s l r
      exact rows_nu_st (rows_nu_ext (t1 S e s l r) f31.eA) h7 x32
    · rw [hst, List.foldl_append]
      exact rows_nu_st (rows_nu o31 f29 (fun b hb => by simp [hb]) e31 b31) h7 x32
  · simp only [decide_eq_false_iff_not] at g
    have : i = lp.length := by omega
    subst this
    rw [List.take_of_length_le (Nat.le_refl _)] at r1
    rw [← hsl]
    exact k s hh f1 f1.e0 t1 r1
end Go.Lf
namespace Go.Lf
open Go.Crn
variable {h : Hp}
theorem rnode_ {A : Nat → Prop} {x y : S_api_Inode} {m n : InodeM} {Q : S_api_Inode → Hp → Prop} (hA : ∀ i, A i → i < h.size) (dx : repI A h x m) (dy : repI A h y n) (om : okI m) (on : okI n) (hw : wI m + wI n < 2 ^ 33)
    (k : ∀ r h', Ext h h' → repI (fun i => h.size ≤ i ∧ i < h'.size) h' r (mInode m n) → Q r h') : crannogref11_Node x y Q h := by
  unfold crannogref11_Node
  obtain ⟨x1, x2, x3, x4, x5, x6, x7⟩ := dx
  obtain ⟨y1, y2, y3, y4, y5, y6, y7⟩ := dy
  obtain ⟨m1, m2, m3⟩ := om
  obtain ⟨n1, n2, n3⟩ := on
  simp only [wI] at hw
  refine al_ .start fun b1 h2 f _ _ _ => al_ f fun b3 h4 f _ _ _ => al_ f fun b5 h6 f _ hb5 _ => al_ f fun b7 h8 f _ hb7 _ => st_ f (by simp) hb7 fun h9 f9 _ => ?_
  refine ⟨fun x10 h12 => Fr h [b7, b5, b3, b1] h h12 ∧ x10.Id = m.Id ∧ x10.Kind = iMax m.Kind n.Kind ∧ x10.Text = sMax m.Text n.Text ∧ x10.Pieces = Sl.nil ∧ x10.Xattrs = Sl.nil, ?_, ?_⟩
  · rintro ⟨i, kd, t, a, s, p, xa⟩ h12 ⟨f12, e1, e2, e3, e4, e5⟩
    simp only at e1 e2 e3 e4 e5
    subst e1; subst e2; subst e3; subst e4; subst e5
    have nl : ∀ {S : Type} {e : Elt S} {hh : Hp}, Rows (Nu h [b7, b5, b3, b1] hh) e hh Sl.nil [] := fun {S e hh} => Rows.nil
    refine rattr_ fun h14 e14 => kp_ f12 e14 (by simp) fun f14 => st_ f14 (by simp) hb7 fun h15 f15 _ => rsize_ fun h17 e17 => kp_ f15 e17 (by simp) fun f17 => st_ f17 (by simp) hb7 fun h18 f18 _ => ?_
    refine nodeP_ hA f18.base (by simp) (by simp) x6 nl m2 (by simp; omega) fun s1 k1 g1 e1 t1 r1 => ?_
    rw [rput_all KeyOf.piece] at r1
    have lp := mPieces_len m.Pieces
    have lx := mXattrs_len m.Xattrs
    unfold mPieces at lp
    unfold mXattrs at lx
    refine nodeP_ hA g1 (by simp) (by simp) y6 r1 n2 (by omega) fun s2 k2 g2 e2 t2 r2 => ?_
    rw [rput_over KeyOf.piece] at r2
    refine nodeX_ hA g2 (by simp) (by simp) x7 nl m3 (by simp) (by simp; omega) fun s3 k3 g3 e3 t3 r3 => ?_
    rw [rput_all KeyOf.xattr] at r3
    refine nodeX_ hA g3 (by simp) (by simp) y7 r3 n3 (fun p hp => (m3 p (mrg_mem Ord3.kXattr.swo hp)).1) (by omega) fun s4 k4 g4 e4 t4 r4 => ?_
    rw [rput_over KeyOf.xattr] at r4
    have r2 := t4 _ _ _ _ (t3 _ _ _ _ r2)
    refine st0_ g4 (by simp) fun h75 f75 x75 => k _ _ f75.e0 ⟨rfl, rfl, rfl, by simp [mInode, setX, setP, x4, y4], by simp [mInode, setX, setP, x5, y5], ?_, ?_⟩
    · exact (rows_nu_st r2 (by simp) x75).weak fun i hi => ⟨hi.1, hi.2.1⟩
    · exact (rows_nu_st r4 (by simp) x75).weak fun i hi => ⟨hi.1, hi.2.1⟩
  · refine rless_s_ (by rw [y3]; exact n1) <| kp_ f9 .refl (by simp) fun f9 => if_ (fun g => ?_) fun g => ?_
    · refine st_ f9 (by simp) hb7 fun h10 f10 _ => ⟨f10, x1, by simp [x2, y2], ?_, rfl, rfl⟩
      rw [x3, y3] at g
      simp [sMax, g, y3]
    · refine ⟨f9, x1, by simp [x2, y2], ?_, rfl, rfl⟩
      rw [x3, y3] at g
      simp [sMax, g, x3]
end Go.Lf
namespace Go.Lf
open Go.Crn
variable {h : Hp}
/-- where the elements of a list of inodes lie, that is made: old ones, or new, but not in the list's own block, nor in a box -/
def Ci (A : Nat → Prop) (h0 : Hp) (b1 : Addr) (hh : Hp) (s : Sl) (i : Nat) : Prop := A i ∨ (h0.size ≤ i ∧ i < hh.size ∧ i ∉ s.blk ∧ i ≠ b1.block)
theorem ci_app {A : Nat → Prop} {h0 h1 h2 : Hp} {b1 : Addr} {s s' : Sl} {q : S_api_Inode} {m : InodeM} (hA : ∀ i, A i → i < h0.size) (he : h0.size ≤ h1.size) (hs : ∀ j ∈ s.blk, h0.size ≤ j ∧ j ≠ b1.block) (x : Ag s.blk h1 h2) (b : ∀ i ∈ s'.blk, i ∈ s.blk ∨ h1.size ≤ i)
    (r : repI (Ci A h0 b1 h1 s) h1 q m) : repI (Ci A h0 b1 h2 s') h2 q m := by
  refine DI.weak (DI.ag r x fun i hi hc => ?_) fun i hc => ?_
  · rcases hc with h | h
    · have := hA i h; have := (hs i hi).1; omega
    · exact h.2.2.1 hi
  · rcases hc with h | h
    · exact .inl h
    · refine .inr ⟨h.1, Nat.lt_of_lt_of_le h.2.1 x.size, fun hi => ?_, h.2.2.2⟩
      rcases b i hi with h' | h'
      · exact h.2.2.1 h'
      · omega
theorem ci_ext {A : Nat → Prop} {h0 h1 h2 : Hp} {b1 : Addr} {s : Sl} {q : S_api_Inode} {m : InodeM} (x : Ext h1 h2) (r : repI (Ci A h0 b1 h1 s) h1 q m) : repI (Ci A h0 b1 h2 s) h2 q m :=
  DI.weak (DI.ext r x) fun _ hc => hc.imp id fun h => ⟨h.1, Nat.lt_of_lt_of_le h.2.1 x.size, h.2.2⟩
theorem rnodes_ {A Ax : Nat → Prop} {a : Sl} {la : List S_api_Inode} {ma : List InodeM} {x : S_api_Inode} {mx : InodeM} {Q : Sl → Hp → Prop} (hA : ∀ i, A i → i < h.size) (hAx : ∀ i, Ax i → i < h.size) (ra : Rows A eInode h a la) (da : F2 (repI A h) la ma) (dx : repI Ax h x mx)
    (oka : ∀ m ∈ ma, okI m) (okx : okI mx) (hn : ma.length < 2 ^ 35) (hw : ∀ m ∈ ma, wI m + wI mx < 2 ^ 33) (hwx : 2 * wI mx < 2 ^ 33)
    (k : ∀ s' h' l', Ext h h' → Own eInode h' s' l' → (∀ i ∈ s'.blk, h.size ≤ i) → F2 (repI (fun i => A i ∨ (h.size ≤ i ∧ i < h'.size ∧ i ∉ s'.blk)) h') l' (rput kInodeM mInode normI ma mx) → Q s' h') : crannogref11_node a x Q h := by
  unfold crannogref11_node
  have hal := ra.1
  have hlm := da.len
  have xid : x.Id = mx.Id := dx.1
  refine al_ .start fun b1 h2 f2 e2 _ hb1 => ?_
  refine loop_ (fun m u h1 => ∃ (i : Nat) (lo : List S_api_Inode), i ≤ la.length ∧ u.2.2 = (i : Int) ∧ m = la.length - i ∧ u.2.1 = ((ma.take i).foldl (rstep kInodeM mInode normI mx) ([], false)).2 ∧ Fr h [b1] h1 h1 ∧ Own eInode h1 u.1 lo ∧
      F2 (repI (Ci A h b1 h1 u.1) h1) lo ((ma.take i).foldl (rstep kInodeM mInode normI mx) ([], false)).1 ∧ (∀ j ∈ u.1.blk, h.size ≤ j ∧ j ≠ b1.block)) la.length
    ⟨0, [], by omega, rfl, by omega, rfl, f2.base, .nil, .nil, by simp [Sl.blk, Sl.nil]⟩ ?_
  rintro m ⟨out, done, u⟩ h5 ⟨i, lo, hi, hu, rfl, hdn, f5, o5, d5, b5⟩
  simp only at hu hdn o5 b5 d5
  subst hu
  have hll := rstep_len (c := kInodeM) (o := mInode) (nw := normI) (x := mx) (ma.take i) ([], false)
  have hti : (ma.take i).length ≤ i := by rw [List.length_take]; omega
  simp only [List.length_nil] at hll
  have hlo := d5.len
  have g5 := f5.e0.size
  refine if_ (fun g => ?_) fun g => ?_
  · simp only [decide_eq_true_eq] at g
    have hil : i < la.length := by omega
    have gp : la[i]? = some la[i] := by simp [hil]
    generalize la[i] = p at gp
    obtain ⟨mp, gm, dp⟩ := da.get gp
    have hmem : mp ∈ ma := List.mem_of_getElem? gm
    have hst : ma.take (i + 1) = ma.take i ++ [mp] := by rw [List.take_add_one, gm]; rfl
    have hfo : (ma.take (i + 1)).foldl (rstep kInodeM mInode normI mx) ([], false) = rstep kInodeM mInode normI mx ((ma.take i).foldl (rstep kInodeM mInode normI mx) ([], false)) mp := by rw [hst, List.foldl_append]; rfl
    generalize hS : (ma.take i).foldl (rstep kInodeM mInode normI mx) ([], false) = s at *
    refine ixlda (ra.ext f5.e0) rfl gp fun q _ _ => al_ f5 fun b11 h12 f12 e12 hb11 _ => st_ f12 (by simp) hb11 fun h13 f13 x13 => ?_
    have hne : ∀ j ∈ out.blk, j < h5.size := o5.lt
    have hx0 : ∀ q d, (if kInodeM mp mx = 0 then (mInode mp mx, true) else (mp, s.2)) = (q, d) → rstep kInodeM mInode normI mx s mp = if !d && decide (kInodeM mx q < 0) then (s.1 ++ [normI mx] ++ [q], true) else (s.1 ++ [q], d) := by
      intro q d hq
      simp only [rstep, hq]
    have rest : ∀ (q : S_api_Inode) (mq : InodeM) (d : Bool) h16, Fr h [b11, b1] h5 h16 → repI (Ci A h b1 h16 out) h16 q mq → (if kInodeM mp mx = 0 then (mInode mp mx, true) else (mp, s.2)) = (mq, d) →
        ∀ K : Sl → Bool → Hp → Prop, (∀ s' d' h' l', Fr h [b1] h' h' → Own eInode h' s' l' → F2 (repI (Ci A h b1 h' s') h') l' (rstep kInodeM mInode normI mx s mp).1 → d' = (rstep kInodeM mInode normI mx s mp).2 → (∀ j ∈ s'.blk, h.size ≤ j ∧ j ≠ b1.block) → K s' d' h') →
        J (fun (x17 : Sl × Bool) h19 =>
              Al h19 (List.flatten [S_api_Inode.cells q]) fun b20 h21 =>
              KpX h19 h21 [b1] <|
              AppS h21 x17.1 (Sl.mk (some b20) 1 1) 13 144 fun v22 h23 =>
              KpX h21 h23 [b1] <|
              K v22 x17.2 h23
          ) fun K18 =>
          J (fun (x24 : Bool) h26 =>
              If x24 (
                crannogref11_Node x x (fun r27 h28 =>
                  KpX h26 h28 [b11, b1] <|
                  Al h28 (List.flatten [S_api_Inode.cells r27]) fun b29 h30 =>
                  KpX h28 h30 [b11, b1] <|
                  AppS h30 out (Sl.mk (some b29) 1 1) 13 144 fun v31 h32 =>
                  KpX h30 h32 [b11, b1] <|
                  K18 (v31, true) h32
                ) h26
              ) (
                K18 (out, d) h26
              )
          ) fun K25 =>
          If (!d) (
            crannogref09_Less x.Id q.Id (fun r34 h35 =>
              KpX h16 h35 [b11, b1] <|
              K25 r34 h35
            ) h16
          ) (
            K25 false h16
          ) := by
      intro q mq d h16 f16 dq hq K hK
      have hr := hx0 mq d hq
      have hkx : decide (cStamp x.Id q.Id < 0) = decide (kInodeM mx mq < 0) := by rw [xid, show q.Id = mq.Id from dq.1]; rfl
      have last : ∀ (o1 : Sl) (d1 : Bool) h19 (l1 : List S_api_Inode) (ms1 : List InodeM), Fr h [b1] h19 h19 → Own eInode h19 o1 l1 → F2 (repI (Ci A h b1 h19 o1) h19) l1 ms1 → repI (Ci A h b1 h19 o1) h19 q mq → l1.length ≤ 2 ^ 36 → (∀ j ∈ o1.blk, h.size ≤ j ∧ j ≠ b1.block) → rstep kInodeM mInode normI mx s mp = (ms1 ++ [mq], d1) →
          Al h19 (List.flatten [S_api_Inode.cells q]) fun b20 h21 => KpX h19 h21 [b1] <| AppS h21 o1 (Sl.mk (some b20) 1 1) 13 144 fun v22 h23 => KpX h21 h23 [b1] <| K v22 d1 h23 := by
        intro o1 d1 h19 l1 ms1 f19 o19 d19 dq19 hl1 b19 hrr
        refine alv_ f19 fun b20 h21 f21 e21 r21 hb20 => kp_ f19 e21 (by simp) fun _ => ?_
        rw [List.flatten_singleton] at r21
        refine app1_ (e := eInode) (o19.ext e21) r21 (by omega) (by omega) fun s' h23 x23 o23 b23 => kpa_ f21 x23 (by simp) ?_ ?_
        · intro b hb hj; simp at hb; subst hb; exact (b19 _ hj).2 rfl
        · have gg := f21.e0.size
          refine hK s' d1 h23 _ (f21.ag x23 fun j hj => (b19 j hj).1) o23 ?_ (by rw [hrr]) fun j hj => ?_
          · rw [hrr]
            refine F2.app (d19.imp fun _ _ _ hr => ci_app hA gg b19 x23 b23 (ci_ext e21 hr)) (.cons (ci_app hA gg b19 x23 b23 (ci_ext e21 dq19)) .nil)
          · rcases b23 j hj with h | h
            · exact b19 j h
            · have := f21.e0.size; have := (f21.b0 b1 (by simp)).2
              exact ⟨by omega, by omega⟩
      have b1lt := (f5.b0 b1 (by simp)).2
      have oo : ∀ h26, Fr h [b11, b1] h5 h26 → Own eInode h26 out lo := fun h26 f => o5.ext f.eA
      have dd : ∀ h26, Fr h [b11, b1] h5 h26 → F2 (repI (Ci A h b1 h26 out) h26) lo s.1 := fun h26 f => d5.imp fun _ _ _ hr => ci_ext f.eA hr
      refine j_ (j_ (if_ (fun g1 => rless_ fun h35 e35 => kp_ f16 e35 (by simp) fun f35 => if_ (fun g2 => ?_) fun g2 => ?_) fun g1 => if_false ?_))
      · have hd0 : d = false := by simpa using g1
        rw [hkx] at g2
        refine rnode_ (A := (· < h35.size)) (m := mx) (n := mx) (fun _ hi => hi) (DI.weak (DI.ext dx f35.e0) fun i hi => Nat.lt_of_lt_of_le (hAx i hi) f35.e0.size) (DI.weak (DI.ext dx f35.e0) fun i hi => Nat.lt_of_lt_of_le (hAx i hi) f35.e0.size) okx okx (by omega) fun r27 h28 e28 d28 => kp_ f35 e28 (by simp) fun f28 => ?_
        rw [mInode_self] at d28
        refine alv_ f28 fun b29 h30 f30 e30 r30 hb29 => kp_ f28 e30 (by simp) fun _ => ?_
        rw [List.flatten_singleton] at r30
        refine app1_ (e := eInode) (oo h30 f30) r30 (by omega) (by omega) fun s' h32 x32 o32 b32 => kpa_ f30 x32 (by simp) ?_ ?_
        · intro b hb hj
          simp at hb
          rcases hb with rfl | rfl
          · have := hne _ hj; omega
          · exact (b5 _ hj).2 rfl
        · have gg := f30.e0.size
          have a5 := f35.eA.size
          have b28 : repI (Ci A h b1 h30 out) h30 r27 (normI mx) := DI.weak (DI.ext d28 e30) fun i hi => .inr ⟨by omega, by have := e30.size; omega, fun hj => by have := hne _ hj; omega, by omega⟩
          refine last s' true h32 (lo ++ [r27]) (s.1 ++ [normI mx]) ((f30.ag x32 fun j hj => (b5 j hj).1).drop (by simp)) o32 ?_ ?_ (by simp; omega) (fun j hj => ?_) (by rw [hr, hd0]; simp at g2; simp [g2])
          · exact F2.app ((dd h30 f30).imp fun _ _ _ hr => ci_app hA gg b5 x32 b32 hr) (.cons (ci_app hA gg b5 x32 b32 b28) .nil)
          · exact ci_app hA gg b5 x32 b32 (ci_ext (e35.trans (e28.trans e30)) dq)
          · rcases b32 j hj with h | h
            · exact b5 j h
            · have := f30.e0.size; have := f30.eA.size
              exact ⟨by omega, by omega⟩
      · have hd0 : d = false := by simpa using g1
        rw [hkx] at g2
        exact last out d h35 lo s.1 (f35.base.drop (by simp)) (oo h35 f35) (dd h35 f35) (ci_ext e35 dq) (by omega) b5 (by rw [hr, hd0]; simp at g2; simp [g2])
      · have hd0 : d = true := by simpa using g1
        exact last out d h16 lo s.1 (f16.base.drop (by simp)) (oo h16 f16) (dd h16 f16) dq (by omega) b5 (by rw [hr, hd0]; simp)
    have hK : ∀ (s' : Sl) (d' : Bool) (h' : Hp) (l' : List S_api_Inode), Fr h [b1] h' h' → Own eInode h' s' l' → F2 (repI (Ci A h b1 h' s') h') l' (rstep kInodeM mInode normI mx s mp).1 → d' = (rstep kInodeM mInode normI mx s mp).2 → (∀ j ∈ s'.blk, h.size ≤ j ∧ j ≠ b1.block) →
        ∃ m', m' < la.length - i ∧ ∃ (i_1 : Nat) (lo : List S_api_Inode), i_1 ≤ la.length ∧ IntKind.wrap .i64 ((i : Int) + 1) = (i_1 : Int) ∧ m' = la.length - i_1 ∧ d' = ((ma.take i_1).foldl (rstep kInodeM mInode normI mx) ([], false)).2 ∧ Fr h [b1] h' h' ∧ Own eInode h' s' lo ∧ F2 (repI (Ci A h b1 h' s') h') lo ((ma.take i_1).foldl (rstep kInodeM mInode normI mx) ([], false)).1 ∧ (∀ j ∈ s'.blk, h.size ≤ j ∧ j ≠ b1.block) := by
      intro s' d' h' l' a1 a2 a5 a3 a4
      exact ⟨la.length - (i + 1), by omega, i + 1, l', by omega, by rw [wi (by omega) (by omega)]; rfl, rfl, by rw [hfo]; exact a3, a1, a2, by rw [hfo]; exact a5, a4⟩
    have hkp : S_api_Stamp.eqb p.Id x.Id = decide (kInodeM mp mx = 0) := by rw [xid, show p.Id = mp.Id from dp.1, Bool.eq_iff_iff, S_api_Stamp.eqb_iff]; exact ⟨fun h => decide_eq_true (cStamp_eq.2 h), fun h => cStamp_eq.1 (of_decide_eq_true h)⟩
    have g13 := f13.e0.size
    have a13 := f13.eA.size
    refine j_ (if_ (fun g2 => ?_) fun g2 => rest p mp done h13 f13 (DI.weak (DI.ext dp f13.e0) fun i hi => .inl hi) ?_ _ hK)
    · refine rnode_ (A := (· < h13.size)) (m := mp) (n := mx) (fun _ hi => hi) (DI.weak (DI.ext dp f13.e0) fun i hi => Nat.lt_of_lt_of_le (hA i hi) g13) (DI.weak (DI.ext dx f13.e0) fun i hi => Nat.lt_of_lt_of_le (hAx i hi) g13) (oka mp hmem) okx (hw mp hmem) fun h33r h33 e33 d33 => kp_ f13 e33 (by simp) fun f33 => st_ f33 (by simp) hb11 fun h34 f34 x34 => rest _ (mInode mp mx) true h34 f34 ?_ ?_ _ hK
      · have b1lt := (f5.b0 b1 (by simp)).2
        have l11 := (f13.b0 b11 (by simp)).2
        refine DI.weak (DI.ag d33 x34 fun i hi hA => by simp at hi; omega) fun i hi => .inr ⟨by omega, by have := x34.size; omega, fun hj => by have := hne _ hj; omega, by omega⟩
      · rw [hkp] at g2; simp at g2; rw [if_pos g2]
    · rw [hkp] at g2; simp at g2; rw [if_neg g2, hdn]
  · simp only [decide_eq_false_iff_not] at g
    have : i = la.length := by omega
    subst this
    rw [List.take_of_length_le (by omega)] at hdn d5 hll hlo
    have fin : ∀ {s' : Sl} {h' : Hp} {l' : List S_api_Inode} {ms : List InodeM}, F2 (repI (Ci A h b1 h' s') h') l' ms → F2 (repI (fun i => A i ∨ (h.size ≤ i ∧ i < h'.size ∧ i ∉ s'.blk)) h') l' ms := fun t => t.imp fun _ _ _ hr => DI.weak hr fun i hi => hi.imp id fun h => ⟨h.1, h.2.1, h.2.2.1⟩
    refine j_ (if_ (fun g2 => ?_) fun g2 => ?_)
    · refine rnode_ (A := (· < h5.size)) (m := mx) (n := mx) (fun _ hi => hi) (DI.weak (DI.ext dx f5.e0) fun i hi => Nat.lt_of_lt_of_le (hAx i hi) g5) (DI.weak (DI.ext dx f5.e0) fun i hi => Nat.lt_of_lt_of_le (hAx i hi) g5) okx okx (by omega) fun r42 h43 e43 d43 => ?_
      rw [mInode_self] at d43
      have f43 := f5.ext e43
      refine alv_ f43 fun b27 h28 f28 e28 r28 hb27 => ?_
      rw [List.flatten_singleton] at r28
      refine app1_ (e := eInode) (o5.ext (e43.trans e28)) r28 (by omega) (by omega) fun s' h30 x30 o30 b30 => k s' h30 _ (f28.e0.over x30 fun j hj => (b5 j hj).1) o30 ?_ ?_
      · intro j hj
        rcases b30 j hj with h | h
        · exact (b5 j h).1
        · have := f28.e0.size; omega
      · have g2 : done = false := by simpa using g2
        rw [g2] at hdn
        have b1lt := (f5.b0 b1 (by simp)).2
        have hrp : rput kInodeM mInode normI ma mx = (ma.foldl (rstep kInodeM mInode normI mx) ([], false)).1 ++ [normI mx] := by
          simp only [rput]
          rw [if_neg (by rw [← hdn]; simp)]
        rw [hrp]
        have b28 : repI (Ci A h b1 h28 out) h28 r42 (normI mx) := DI.weak (DI.ext d43 e28) fun i hi => .inr ⟨by omega, by have := e28.size; omega, fun hj => by have := o5.lt _ hj; omega, by omega⟩
        exact fin (F2.app (d5.imp fun _ _ _ hr => ci_app hA f28.e0.size b5 x30 b30 (ci_ext (e43.trans e28) hr)) (.cons (ci_app hA f28.e0.size b5 x30 b30 b28) .nil))
    · have g2 : done = true := by simpa using g2
      rw [g2] at hdn
      refine k out h5 _ f5.e0 o5 (fun j hj => (b5 j hj).1) ?_
      simp only [rput]
      rw [if_pos hdn.symm]
      exact fin d5
end Go.Lf
namespace Go.Lf
open Go.Crn
variable {h : Hp}
def setN (x : S_api_State) (s : Sl) : S_api_State := ⟨x.Seen, s, x.Links⟩
def setL (x : S_api_State) (s : Sl) : S_api_State := ⟨x.Seen, x.Nodes, s⟩
/-- links put, one by one -/
theorem stateL_ {A : Nat → Prop} {h0 h1 : Hp} {bs kb : List Addr} {b7 : Addr} {sp : Sl} {lp l0 : List S_api_Link} {acc : S_api_State} {K : Int × S_api_State → Hp → Prop}
    (hA : ∀ i, A i → i < h0.size) (f : Fr h0 bs h1 h1) (h7 : b7 ∈ bs) (hkb : ∀ b ∈ kb, b ∈ bs) (rp : Rows A eLink h0 sp lp) (ra : Rows (Nu h0 bs h1) eLink h1 acc.Links l0) (hd : ∀ p ∈ lp, p.Name.length < 2 ^ 63) (hn : l0.length + 2 * lp.length < 2 ^ 35)
    (k : ∀ s hh, Fr h0 bs hh hh → Ext h0 hh → (∀ (S : Type) (e : Elt S) (s : Sl) (l : List S), Rows (Nu h0 bs h1) e h1 s l → Rows (Nu h0 bs hh) e hh s l) → Rows (Nu h0 bs hh) eLink hh s (lp.foldl (rput kLink mLink id) l0) → K ((sp.len : Int), setL acc s) hh) :
    LoopF (σ := Int × S_api_State) (0, acc) h1 fun u19 h21 L20 =>
            If (decide (u19.1 < (sp.len : Int))) (
              Ix sp u19.1 25 fun p23 =>
              LdA S_api_Link.cells h21 p23 fun v25 =>
              AlX h21 fun b27 h28 =>
              StX h28 b27 fun h29 =>
              crannogref11_link u19.2.Links v25 (fun r30 h31 =>
                KpX h29 h31 kb <|
                StX h31 b7 fun h32 =>
                L20 (IntKind.wrap .i64 (u19.1 + (1 : Int)), (S_api_State.mk u19.2.Seen u19.2.Nodes r30)) h32
              ) h29
            ) (K u19 h21) := by
  have hsl := rp.1
  have flen : ∀ (l : List S_api_Link) (s : List S_api_Link), (l.foldl (rput kLink mLink id) s).length ≤ s.length + 2 * l.length := by
    intro l
    induction l with
    | nil => intro s; simp
    | cons x l ih =>
      intro s
      have h1 := ih (rput kLink mLink id s x)
      have h2 := rput_len1 (c := kLink) (o := mLink) s x
      simp only [List.foldl_cons, List.length_cons]; omega
  refine loop_ (fun m u hh => ∃ (i : Nat) (s : Sl), i ≤ lp.length ∧ u = ((i : Int), setL acc s) ∧ m = lp.length - i ∧ Fr h0 bs hh hh ∧ (∀ (S : Type) (e : Elt S) (s : Sl) (l : List S), Rows (Nu h0 bs h1) e h1 s l → Rows (Nu h0 bs hh) e hh s l) ∧ Rows (Nu h0 bs hh) eLink hh s ((lp.take i).foldl (rput kLink mLink id) l0)) lp.length
    ⟨0, acc.Links, by omega, rfl, by omega, f, fun _ _ _ _ h => h, by simpa using ra⟩ ?_
  rintro m u hh ⟨i, s, hi, rfl, rfl, f1, t1, r1⟩
  refine if_ (fun g => ?_) fun g => ?_
  · simp only [decide_eq_true_eq] at g
    have hil : i < lp.length := by omega
    have gp : lp[i]? = some lp[i] := by simp [hil]
    have hmem : lp[i] ∈ lp := by simp
    generalize lp[i] = p at gp hmem
    have hst : lp.take (i + 1) = lp.take i ++ [p] := by rw [List.take_add_one, gp]; rfl
    have hl := flen (lp.take i) l0
    have hti : (lp.take i).length ≤ i := by rw [List.length_take]; omega
    refine ixlda (rp.ext f1.e0) rfl gp fun q _ _ => al_ f1 fun b27 h28 f28 e28 hb27 _ => st_ f28 (by simp) hb27 fun h29 f29 x29 => ?_
    have r29 := rows_nu_ext r1 f29.eA
    refine link_Link r29 (by omega) (hd p hmem) fun s' h31 e31 o31 b31 => kp_ f29 e31 (fun b hb => by simp [hkb b hb]) fun f31 => st0_ f31 (by simp [h7]) fun h32 f32 x32 => ?_
    refine ⟨lp.length - (i + 1), by omega, i + 1, s', by omega, ?_, rfl, f32.drop (fun b hb => by simp [hb]), ?_, ?_⟩
    · rw [wi (by omega) (by omega)]; rfl
    · intro S e s l r
      exact rows_nu_st (rows_nu_ext (t1 S e s l r) f31.eA) h7 x32
    · rw [hst, List.foldl_append]
      exact rows_nu_st (rows_nu o31 f29 (fun b hb => by simp [hb]) e31 b31) h7 x32
  · simp only [decide_eq_false_iff_not] at g
    have : i = lp.length := by omega
    subst this
    rw [List.take_of_length_le (Nat.le_refl _)] at r1
    rw [← hsl]
    exact k s hh f1 f1.e0 t1 r1
end Go.Lf
namespace Go.Lf
open Go.Crn
variable {h : Hp}
theorem rput_P {M : Type} {c : M → M → Int} {o : M → M → M} {nw : M → M} {P P' : M → Prop} {x : M} (h1 : ∀ p, P p → P' p) (h2 : ∀ p, P p → P' (o p x)) (h3 : P' (nw x)) {l : List M} (hl : ∀ y ∈ l, P y) : ∀ y ∈ rput c o nw l x, P' y := by
  have key : ∀ (l : List M) (s : List M × Bool), (∀ y ∈ l, P y) → (∀ y ∈ s.1, P' y) → ∀ y ∈ (l.foldl (rstep c o nw x) s).1, P' y := by
    intro l
    induction l with
    | nil => intro s _ hs; exact hs
    | cons p l ih =>
      intro s hl hs
      refine ih _ (fun y hy => hl y (by simp [hy])) fun z hz => ?_
      have hp := hl p (by simp)
      have a := h1 p hp
      have b := h2 p hp
      obtain ⟨s1, s2⟩ := s
      simp only at hs
      by_cases h1 : c p x = 0 <;> cases s2 <;> by_cases h2 : c x p < 0 <;> simp only [rstep, h1] at hz <;> grind
  have := key l ([], false) hl (by simp)
  unfold rput
  simp only
  split
  · exact this
  · intro y hy
    rcases List.mem_append.1 hy with hy | hy
    · exact this y hy
    · simp at hy; subst hy; exact h3
theorem rput_len2 {M : Type} {c : M → M → Int} {o : M → M → M} {nw : M → M} (l : List M) (x : M) : (rput c o nw l x).length ≤ l.length + 2 := by
  have := (rstep_len (c := c) (o := o) (nw := nw) (x := x) l ([], false)).1
  simp only [rput]
  split
  · simp at this; omega
  · simp at this ⊢; omega
theorem okI_norm {m : InodeM} (h : okI m) : okI (normI m) := by rw [← mInode_self]; exact okI_m h h
theorem foldN_ok : ∀ (l : List InodeM) (s : List InodeM) (W : Nat), (∀ m ∈ l, okI m) → (∀ m ∈ s, okI m ∧ wI m ≤ W) → ∀ m ∈ l.foldl (rput kInodeM mInode normI) s, okI m ∧ wI m ≤ W + wsum wI l := by
  intro l
  induction l with
  | nil => intro s W _ hs; simpa [wsum] using hs
  | cons x l ih =>
    intro s W hl hs m hm
    have hx := hl x (by simp)
    have := ih (rput kInodeM mInode normI s x) (W + wI x) (fun y hy => hl y (by simp [hy])) (rput_P (P := fun m => okI m ∧ wI m ≤ W) (P' := fun m => okI m ∧ wI m ≤ W + wI x) (fun p hp => ⟨hp.1, by omega⟩) (fun p hp => ⟨okI_m hp.1 hx, by have := wI_le p x; omega⟩) ⟨okI_norm hx, by have := wI_norm x; omega⟩ hs) m hm
    simp only [wsum, List.map_cons, List.sum_cons] at this ⊢
    exact ⟨this.1, by omega⟩
/-- inodes put, one by one -/
theorem stateN_ {A : Nat → Prop} {h0 h1 : Hp} {bs kb : List Addr} {b7 : Addr} {sp : Sl} {lp l0 : List S_api_Inode} {mp m0 : List InodeM} {acc : S_api_State} {K : Int × S_api_State → Hp → Prop} {W : Nat}
    (hA : ∀ i, A i → i < h0.size) (f : Fr h0 bs h1 h1) (h7 : b7 ∈ bs) (hkb : ∀ b ∈ kb, b ∈ bs) (rp : Rows A eInode h0 sp lp) (dp : F2 (repI A h0) lp mp) (ra : Rows (Nu h0 bs h1) eInode h1 acc.Nodes l0) (da : F2 (repI (Nu h0 bs h1) h1) l0 m0)
    (okp : ∀ m ∈ mp, okI m) (ok0 : ∀ m ∈ m0, okI m) (hn : m0.length + 2 * mp.length < 2 ^ 35) (hW : ∀ m ∈ m0, wI m ≤ W) (hw : W + 2 * wsum wI mp < 2 ^ 33)
    (k : ∀ s l hh, Fr h0 bs hh hh → Ext h0 hh → (∀ (S : Type) (e : Elt S) (s : Sl) (l : List S), Rows (Nu h0 bs h1) e h1 s l → Rows (Nu h0 bs hh) e hh s l) → Rows (Nu h0 bs hh) eInode hh s l → F2 (repI (Nu h0 bs hh) hh) l (mp.foldl (rput kInodeM mInode normI) m0) → K ((sp.len : Int), setN acc s) hh) :
    LoopF (σ := Int × S_api_State) (0, acc) h1 fun u19 h21 L20 =>
            If (decide (u19.1 < (sp.len : Int))) (
              Ix sp u19.1 13 fun p23 =>
              LdA S_api_Inode.cells h21 p23 fun v25 =>
              AlX h21 fun b27 h28 =>
              StX h28 b27 fun h29 =>
              crannogref11_node u19.2.Nodes v25 (fun r30 h31 =>
                KpX h29 h31 kb <|
                StX h31 b7 fun h32 =>
                L20 (IntKind.wrap .i64 (u19.1 + (1 : Int)), (S_api_State.mk u19.2.Seen r30 u19.2.Links)) h32
              ) h29
            ) (K u19 h21) := by
  have hsl := rp.1
  have hlm := dp.len
  have flen : ∀ (l : List InodeM) (s : List InodeM), (l.foldl (rput kInodeM mInode normI) s).length ≤ s.length + 2 * l.length := by
    intro l
    induction l with
    | nil => intro s; simp
    | cons x l ih =>
      intro s
      have h1 := ih (rput kInodeM mInode normI s x)
      have h2 := rput_len2 (c := kInodeM) (o := mInode) (nw := normI) s x
      simp only [List.foldl_cons, List.length_cons]; omega
  refine loop_ (fun m u hh => ∃ (i : Nat) (s : Sl) (l : List S_api_Inode), i ≤ lp.length ∧ u = ((i : Int), setN acc s) ∧ m = lp.length - i ∧ Fr h0 bs hh hh ∧ (∀ (S : Type) (e : Elt S) (s : Sl) (l : List S), Rows (Nu h0 bs h1) e h1 s l → Rows (Nu h0 bs hh) e hh s l) ∧ Rows (Nu h0 bs hh) eInode hh s l ∧ F2 (repI (Nu h0 bs hh) hh) l ((mp.take i).foldl (rput kInodeM mInode normI) m0)) lp.length
    ⟨0, acc.Nodes, l0, by omega, rfl, by omega, f, fun _ _ _ _ h => h, ra, by simpa using da⟩ ?_
  rintro m u hh ⟨i, s, l, hi, rfl, rfl, f1, t1, r1, d1⟩
  refine if_ (fun g => ?_) fun g => ?_
  · simp only [decide_eq_true_eq] at g
    have hil : i < lp.length := by omega
    have gp : lp[i]? = some lp[i] := by simp [hil]
    generalize lp[i] = p at gp
    obtain ⟨mx, gm, dx⟩ := dp.get gp
    have hmem : mx ∈ mp := List.mem_of_getElem? gm
    have hst : mp.take (i + 1) = mp.take i ++ [mx] := by rw [List.take_add_one, gm]; rfl
    have hl := flen (mp.take i) m0
    have hti : (mp.take i).length ≤ i := by rw [List.length_take]; omega
    have hok := foldN_ok (mp.take i) m0 W (fun m hm => okp m (List.mem_of_mem_take hm)) fun m hm => ⟨ok0 m hm, hW m hm⟩
    have hwi : wsum wI (mp.take i) + wI mx ≤ wsum wI mp := by
      have : wsum wI (mp.take (i + 1)) ≤ wsum wI mp := by
        conv => rhs; rw [← List.take_append_drop (i + 1) mp]
        simp only [wsum_app]; omega
      rw [hst, wsum_app] at this
      simp [wsum] at this ⊢
      omega
    refine ixlda (rp.ext f1.e0) rfl gp fun q _ _ => al_ f1 fun b27 h28 f28 e28 hb27 _ => st_ f28 (by simp) hb27 fun h29 f29 x29 => ?_
    have r29 := rows_nu_ext r1 f29.eA
    have g29 := f29.e0.size
    refine rnodes_ (Ax := A) (fun i hi => hi.2.1) (fun i hi => Nat.lt_of_lt_of_le (hA i hi) g29) r29 (d1.imp fun _ _ _ hr => DI.weak (DI.ext hr f29.eA) fun i hi => ⟨hi.1, Nat.lt_of_lt_of_le hi.2.1 f29.eA.size, hi.2.2⟩) (DI.ext dx f29.e0) (fun m hm => (hok m hm).1) (okp mx hmem) (by omega) (fun m hm => by have := (hok m hm).2; omega) (by omega) fun s' h31 l' e31 o31 b31 d31 => kp_ f29 e31 (fun b hb => by simp [hkb b hb]) fun f31 => st0_ f31 (by simp [h7]) fun h32 f32 x32 => ?_
    have l7 := fun b hb => (f29.b0 b (List.mem_cons_of_mem b27 hb)).2
    refine ⟨lp.length - (i + 1), by omega, i + 1, s', l', by omega, ?_, rfl, f32.drop (fun b hb => by simp [hb]), ?_, ?_, ?_⟩
    · rw [wi (by omega) (by omega)]; rfl
    · intro S e s l r
      exact rows_nu_st (rows_nu_ext (t1 S e s l r) f31.eA) h7 x32
    · exact rows_nu_st (rows_nu o31 f29 (fun b hb => by simp [hb]) e31 b31) h7 x32
    · rw [hst, List.foldl_append]
      have d31' : F2 (repI (Nu h0 bs h31) h31) l' (rput kInodeM mInode normI ((mp.take i).foldl (rput kInodeM mInode normI) m0) mx) := d31.imp fun _ _ _ hr => DI.weak hr fun i hi => by
        rcases hi with h | h
        · exact ⟨h.1, Nat.lt_of_lt_of_le h.2.1 e31.size, h.2.2⟩
        · exact ⟨by omega, h.2.1, fun b hb => by have := l7 b hb; omega⟩
      exact d31'.imp fun _ _ _ hr => DI.weak (DI.ag hr x32 fun i hi hA => by simp at hi; exact hA.2.2 b7 h7 hi) fun i hA => ⟨hA.1, Nat.lt_of_lt_of_le hA.2.1 x32.size, hA.2.2⟩
  · simp only [decide_eq_false_iff_not] at g
    have : i = lp.length := by omega
    subst this
    rw [List.take_of_length_le (by omega)] at d1
    rw [← hsl]
    exact k s l hh f1 f1.e0 t1 r1 d1
end Go.Lf
namespace Go.Lf
open Go.Crn
variable {h : Hp}
def okSt (m : StateM) : Prop := (∀ n ∈ m.Nodes, okI n) ∧ ∀ l ∈ m.Links, l.Name.length < 2 ^ 63
theorem foldN_norm (l : List InodeM) : l.foldl (rput kInodeM mInode normI) [] = (mNodes l).map normI := by
  rw [mNodes_norm]
  have : (fun x => mInode x x) = normI := by funext x; exact mInode_self x
  rw [rps, show rp kInodeM mInode = rput kInodeM mInode normI by rw [← this]]
theorem mNodes_len (l : List InodeM) : (mNodes l).length ≤ l.length := mrg_len Ord3.kInodeM.swo l
theorem mLinks_len (l : List S_api_Link) : (mLinks l).length ≤ l.length := mrg_len Ord3.kLink.swo l
theorem rstates_ {x y : S_api_State} {m n : StateM} {Q : S_api_State → Hp → Prop} (dx : repS (· < h.size) h x m) (dy : repS (· < h.size) h y n) (om : okSt m) (on : okSt n) (hw : wS m + wS n < 2 ^ 31)
    (k : ∀ r h', Ext h h' → repS (fun i => h.size ≤ i ∧ i < h'.size) h' r (mStates m n) → Q r h') : crannogref11_States x y Q h := by
  obtain ⟨x1, ⟨lx, x2, x3⟩, x4⟩ := dx
  obtain ⟨y1, ⟨ly, y2, y3⟩, y4⟩ := dy
  obtain ⟨m1, m2⟩ := om
  obtain ⟨n1, n2⟩ := on
  simp only [wS] at hw
  unfold crannogref11_States
  have nl : ∀ {S : Type} {e : Elt S} {hh : Hp} {bs : List Addr}, Rows (Nu h bs hh) e hh Sl.nil [] := fun {S e hh bs} => Rows.nil
  refine al_ .start fun b1 h2 f _ _ _ => al_ f fun b3 h4 f _ _ _ => al_ f fun b5 h6 f _ hb5 _ => rjoin_ fun h8 e8 => kp_ f e8 (by simp) fun f => al_ f fun b9 h10 f _ hb9 _ => st_ f (by simp) hb9 fun h11 f11 _ => ?_
  have lN := mNodes_len m.Nodes
  have lL := mLinks_len m.Links
  have okm := foldN_ok m.Nodes [] 0 m1 (by simp)
  refine stateN_ (W := 0) (l0 := []) (m0 := []) (fun _ hi => hi) f11.base (by simp) (by simp) x2 x3 nl .nil m1 (by simp) (by simp; omega) (by simp) (by omega) fun s1 l1 k1 g1 e1 t1 r1 d1 => ?_
  refine stateN_ (W := wsum wI m.Nodes) (fun _ hi => hi) g1 (by simp) (by simp) y2 y3 r1 d1 n1 (fun m hm => (okm m hm).1) (by rw [foldN_norm, List.length_map]; omega) (fun m hm => by have := (okm m hm).2; omega) (by omega) fun s2 l2 k2 g2 e2 t2 r2 d2 => ?_
  rw [← List.foldl_append, foldN_norm] at d2
  refine stateL_ (l0 := []) (fun _ hi => hi) g2 (by simp) (by simp) x4 nl m2 (by simp; omega) fun s3 k3 g3 e3 t3 r3 => ?_
  rw [rput_all KeyOf.link] at r3
  have d3 := d2
  refine stateL_ (fun _ hi => hi) g3 (by simp) (by simp) y4 r3 n2 (by unfold mLinks at lL; omega) fun s4 k4 g4 e4 t4 r4 => ?_
  rw [rput_over KeyOf.link] at r4
  have r2 := t4 _ _ _ _ (t3 _ _ _ _ r2)
  have d2' : F2 (repI (Nu h [b9, b5, b3, b1] k4) k4) l2 ((mNodes (m.Nodes ++ n.Nodes)).map normI) := d2.imp fun _ _ _ hr => by
    obtain ⟨a1, a2, a3, a4, a5, a6, a7⟩ := hr
    exact ⟨a1, a2, a3, a4, a5, t4 _ _ _ _ (t3 _ _ _ _ a6), t4 _ _ _ _ (t3 _ _ _ _ a7)⟩
  refine st0_ g4 (by simp) fun h68 f68 x68 => k _ _ f68.e0 ⟨?_, ⟨l2, ?_, ?_⟩, ?_⟩
  · simp [mStates, setN, setL, x1, y1]
  · exact (rows_nu_st r2 (by simp) x68).weak fun i hi => ⟨hi.1, hi.2.1⟩
  · exact d2'.imp fun _ _ _ hr => by
      obtain ⟨a1, a2, a3, a4, a5, a6, a7⟩ := hr
      exact ⟨a1, a2, a3, a4, a5, (rows_nu_st a6 (by simp) x68).weak fun i hi => ⟨hi.1, hi.2.1⟩, (rows_nu_st a7 (by simp) x68).weak fun i hi => ⟨hi.1, hi.2.1⟩⟩
  · exact (rows_nu_st r4 (by simp) x68).weak fun i hi => ⟨hi.1, hi.2.1⟩
theorem rempty_ {Q : S_api_State → Hp → Prop} (k : ∀ r h', Ext h h' → repS (fun i => h.size ≤ i ∧ i < h'.size) h' r emptyM → Q r h') : crannogref10_Empty Q h := by
  unfold crannogref10_Empty
  refine al_ .start fun b1 h2 f e hb1 _ => al_ f fun b3 h4 f4 e4 hb3 _ => st_ f4 (by simp) hb3 fun h5 f5 _ => st_ f5 (by simp) hb3 fun h6 f6 _ => alv_ f6 fun b7 h8 f8 e8 r8 hb8 => kp_ f6 e8 (by simp) fun f => st_ f (by simp) hb1 fun h9 f9 x9 => k _ h9 f9.e0 ?_
  rw [List.flatten_singleton] at r8
  have r9 := row_ag r8 x9 (by
    simp
    have := (f6.b0 b1 (by simp)).2
    omega)
  refine ⟨rfl, ⟨[⟨⟨0, 0⟩, 2, [], ⟨⟨0, 0⟩, 493, 9223372036854775808⟩, ⟨⟨0, 0⟩, 0⟩, Sl.nil, Sl.nil⟩], ?_, .cons ⟨rfl, rfl, rfl, rfl, rfl, Rows.nil, Rows.nil⟩ .nil⟩, Rows.nil⟩
  exact (rows1 (e := eInode) r9).weak fun i hi => by
    subst hi
    have := f6.e0.size
    refine ⟨by omega, ?_⟩
    have := cell_lt (r9 0 _ rfl); simpa [add_block] using this
def okL (l : List EventM) : Prop := ∀ e ∈ l, okSt e.Delta
theorem okSt_m {m n : StateM} (hm : okSt m) (hn : okSt n) : okSt (mStates m n) := by
  refine ⟨fun x hx => ?_, fun x hx => ?_⟩
  · simp only [mStates] at hx
    rw [← foldN_norm] at hx
    exact (foldN_ok _ [] 0 (fun y hy => by rcases List.mem_append.1 hy with h | h; exact hm.1 y h; exact hn.1 y h) (by simp) x hx).1
  · simp only [mStates, mLinks_rps] at hx
    have key : ∀ (l s : List S_api_Link), (∀ y ∈ l, y.Name.length < 2 ^ 63) → (∀ y ∈ s, y.Name.length < 2 ^ 63) → ∀ y ∈ rps kLink mLink s l, y.Name.length < 2 ^ 63 := by
      intro l
      induction l with
      | nil => intro s _ hs; exact hs
      | cons z l ih =>
        intro s hl hs
        have hz := hl z (by simp)
        have mm : ∀ p : S_api_Link, p.Name.length < 2 ^ 63 → (mLink p z).Name.length < 2 ^ 63 := fun p hp => by
          have : (mLink p z).Name = p.Name ∨ (mLink p z).Name = z.Name := by
            simp only [mLink]
            rcases gr_or (c := cPlace) (a := p) (b := z) with g | g <;> rw [g] <;> simp
          rcases this with h | h <;> rw [h] <;> assumption
        exact ih (rp kLink mLink s z) (fun y hy => hl y (by simp [hy])) (rput_P (P := fun y : S_api_Link => y.Name.length < 2 ^ 63) (P' := fun y : S_api_Link => y.Name.length < 2 ^ 63) (fun _ h => h) mm (mm z hz) hs)
    exact key _ [] (fun y hy => by rcases List.mem_append.1 hy with h | h; exact hm.2 y h; exact hn.2 y h) (by simp) x hx
theorem okSt_empty : okSt emptyM := ⟨by
  intro n hn
  simp only [emptyM, List.mem_cons, List.not_mem_nil, or_false] at hn
  subst hn
  simp [okI, rootM], by simp [emptyM]⟩
theorem okSt_fold : ∀ l : List EventM, okL l → okSt (mFold l) := by
  refine snocInd (fun _ => okSt_empty) fun l x ih h => ?_
  have e : mFold (l ++ [x]) = mStates (mFold l) x.Delta := by simp [mFold, List.foldl_append]
  rw [e]
  exact okSt_m (ih fun y hy => h y (by simp [hy])) (h x (by simp))
theorem rfold_ {s : Sl} {m : List EventM} {Q : S_api_State → Hp → Prop} (r : repL h s m) (ok : okL m) (hw : wL m < 2 ^ 30) (hn : m.length < 2 ^ 30) (k : ∀ r h', Ext h h' → repS (fun i => h.size ≤ i ∧ i < h'.size) h' r (mFold m) → Q r h') : crannogref22_Fold s Q h := by
  unfold crannogref22_Fold
  obtain ⟨l, r1, r2⟩ := r
  have hlen := r2.len
  refine al_ .start fun b1 h2 f2 e2 hb1 _ => rempty_ fun r3 h4 e4 d4 => kp_ f2 e4 (by simp) fun f4 => al_ f4 fun b5 h6 f6 e6 hb5 hb5e => st_ f6 (by simp) hb5 fun h7 f7 x7 => ?_
  have g2 := e2.size
  have c1 := (f2.b0 b1 (by simp)).2
  have d7 : repS (fun i => h.size ≤ i ∧ i < h7.size ∧ i ≠ b1.block ∧ i ≠ b5.block) h7 r3 emptyM := by
    refine repS_weak (repS_ag (repS_ext d4 e6) x7 fun i hi hA => by simp at hi; omega) fun i hA => ⟨by omega, ?_, by omega, by omega⟩
    have := e6.size; have := x7.size; omega
  refine loop_ (fun q u h1 => ∃ i : Nat, i ≤ l.length ∧ u.1 = (i : Int) ∧ q = l.length - i ∧ Fr h [b5, b1] h1 h1 ∧ repS (fun i => h.size ≤ i ∧ i < h1.size ∧ i ≠ b1.block ∧ i ≠ b5.block) h1 u.2 (mFold (m.take i))) l.length
    ⟨0, by omega, rfl, by omega, f7.base, by simpa [mFold] using d7⟩ ?_
  rintro q ⟨u1, u2⟩ h10 ⟨i, hi, hu, rfl, f10, d10⟩
  simp only at hu d10
  subst hu
  have hs := r1.1
  refine if_ (fun g => ?_) fun g => ?_
  · simp only [decide_eq_true_eq] at g
    have hil : i < l.length := by omega
    have gx : l[i]? = some l[i] := by simp [hil]
    generalize l[i] = x at gx
    obtain ⟨mx, gm, rx⟩ := r2.get gx
    have hmem : mx ∈ m := List.mem_of_getElem? gm
    have hst : m.take (i + 1) = m.take i ++ [mx] := by rw [List.take_add_one, gm]; rfl
    have hww : wL (m.take i) + wS mx.Delta ≤ wL m := by
      have : wL (m.take (i + 1)) ≤ wL m := by
        conv => rhs; rw [← List.take_append_drop (i + 1) m]
        simp only [wL, wsum_app]; omega
      rw [hst] at this
      simp only [wL, wsum_app] at this ⊢
      simp [wsum] at this ⊢
      omega
    have hwf := wFold (m.take i)
    refine ixlda (r1.ext f10.e0) rfl gx fun p _ _ => al_ f10 fun b16 h17 f17 e17 hb16 _ => st_ f17 (by simp) hb16 fun h18 f18 x18 => ?_
    have g18 := f18.eA.size
    have g10 := f10.e0.size
    have z1 := (f10.b0 b1 (by simp)).2
    have z5 := (f10.b0 b5 (by simp)).2
    refine rstates_ (m := mFold (m.take i)) (n := mx.Delta) (repS_weak (repS_ext d10 f18.eA) fun i hA => by omega) (repS_weak (repS_ext rx.2.2.2 f18.e0) fun i hA => by omega) (okSt_fold _ fun e he => ok e (List.mem_of_mem_take he)) (ok mx hmem) (by omega) fun r19 h20 e20 d20 => kp_ f18 e20 (by simp) fun f20 => st0_ f20 (by simp) fun h21 f21 x21 => ?_
    refine ⟨l.length - (i + 1), by omega, i + 1, by omega, by rw [wi (by omega) (by omega)]; rfl, rfl, f21.drop (by simp), ?_⟩
    rw [hst]
    have : mFold (m.take i ++ [mx]) = mStates (mFold (m.take i)) mx.Delta := by simp [mFold, List.foldl_append]
    rw [this]
    refine repS_weak (repS_ag d20 x21 fun i hi hA => by simp at hi; omega) fun i hA => ⟨by omega, ?_, by omega, by omega⟩
    have := x21.size; omega
  · simp only [decide_eq_false_iff_not] at g
    have : i = l.length := by omega
    subst this
    rw [List.take_of_length_le (by omega)] at d10
    refine st0_ f10 (by simp) fun h22 f22 x22 => k _ _ f22.e0 ?_
    refine repS_weak (repS_ag d10 x22 fun i hi hA => by simp at hi; exact hA.2.2.1 hi) fun i hA => ⟨hA.1, ?_⟩
    have := x22.size; omega
end Go.Lf
namespace Go.Lf
open Go.Crn
variable {h : Hp}
theorem flat2 {b7 : Addr} {x y : S_api_Event} (r8 : Row h b7 (List.flatten [S_api_Event.cells x, S_api_Event.cells y])) : Rows (· = b7.block) eEvent h (Sl.mk (some b7) 2 2) [x, y] := by
  refine ⟨rfl, fun i z hi => ⟨b7, rfl, rfl, ?_⟩⟩
  match i, hi with
  | 0, hi =>
    simp at hi; subst hi
    exact row_sub r8 fun j v hj => by
      have : j < 21 := (List.getElem?_eq_some_iff.1 hj).1
      rw [List.flatten_cons, List.getElem?_append_left (by simpa [S_api_Event.cells] using this)]
      simpa [eEvent] using hj
  | 1, hi =>
    simp at hi; subst hi
    exact row_sub r8 fun j v hj => by
      have : j < 21 := (List.getElem?_eq_some_iff.1 hj).1
      rw [List.flatten_cons, List.getElem?_append_right (by simp [S_api_Event.cells, eEvent]), List.flatten_cons, List.getElem?_append_left (by simp [S_api_Event.cells, eEvent]; omega)]
      simpa [eEvent, S_api_Event.cells] using hj
  | i + 2, hi => simp at hi
theorem repE_ext {h' : Hp} {x : S_api_Event} {m : EventM} (r : repE (· < h.size) h x m) (e : Ext h h') : repE (· < h'.size) h' x m :=
  ⟨r.1, r.2.1, r.2.2.1, repS_weak (repS_ext r.2.2.2 e) fun _ hi => Nat.lt_of_lt_of_le hi e.size⟩
theorem rbefore_ {a b : S_api_Event} {Q : Bool → Hp → Prop} (k : ∀ h', Ext h h' → Q (vHas b.Knew a.At) h') : crannogref22_Before a b Q h := by
  unfold crannogref22_Before
  exact al_ .start fun b1 h2 f e _ _ => al_ f fun b3 h4 f e _ _ => rhas_ fun h6 e => k _ (f.ext e).e0
theorem modelFolds_ {a0 : Sl} {l : List EventM} {a b : S_api_Event} {ma mb : EventM} {Q : Bool → Hp → Prop} (r : repL h a0 l) (ok : okL l) (ra : repE (· < h.size) h a ma) (rb : repE (· < h.size) h b mb) (k : ∀ h', Ext h h' → Q true h') : crannoglaw22_ModelFolds a0 a b Q h := by
  unfold crannoglaw22_ModelFolds
  refine al_ .start fun b1 h2 f2 _ _ _ => al_ f2 fun b3 h4 f4 _ _ _ => alv_ f4 fun b5 h6 f6 e6 r6 hb5 => kp_ f4 e6 (by simp) fun _ => alv_ f6 fun b7 h8 f8 e8 r8 hb7 => kp_ f6 e8 (by simp) fun _ => ?_
  have p6 : repL h8 (Sl.mk (some b5) 2 2) [ma, mb] := ⟨[a, b], ((flat2 r6).ext e8).weak (fun i hi => by
    subst hi
    have := cell_lt (r6 0 _ rfl)
    have := e8.size
    simp [add_block] at *; omega), .cons (repE_ext ra f8.e0) (.cons (repE_ext rb f8.e0) .nil)⟩
  refine small_ (ms := [l, [ma, mb]]) (rows2 r8) (.cons (repL_ext r f8.e0) (.cons p6 .nil)) (by simp) fun s h10 e10 hs => kp_ f8 e10 (by simp) fun f10 => if_ (fun _ => awake_ fun h12 e12 => k _ (f10.e0.trans e12)) fun g => ?_
  have sm := hs (by simpa using g) l (by simp)
  have w := smL_w sm
  have wf := wFold l
  refine j_ (fold_ (repL_ext r f10.e0) (by omega) (by have := sm.1; omega) fun r16 h17 e17 d17 => kp_ f10 e17 (by simp) fun f17 => ?_)
  refine rfold_ (repL_ext r f17.e0) ok (by omega) (by have := sm.1; omega) fun r18 h19 e19 d19 => kp_ f17 e19 (by simp) fun f19 => ?_
  refine rsame_ (repS_ext d17 e19) d19 (by omega) fun h21 e21 => kp_ f19 e21 (by simp) fun f21 => if_true ?_
  refine before_ fun h24 e24 => kp_ f21 e24 (by simp) fun f24 => rbefore_ fun h26 e26 => ?_
  rw [beq_self_eq_true]
  exact if_true (awake_ fun h28 e28 => k _ ((f24.e0.trans e26).trans e28))
theorem alz_ {S : Type} {e : Elt S} {h0 hA : Hp} {bs : List Addr} {K : Addr → Hp → Prop} (f : Fr h0 bs hA h) (k : ∀ b h', Fr h0 bs hA h' → Ext h h' → Own e h' (Sl.mk (some b) 0 0) [] → b.block = h.size → K b h') : Al h (List.flatten []) K := fun T => by
  have ex : Ext h (h.push (.cells (List.flatten ([] : List (List Value))).toArray T)) := .push
  refine k _ _ (f.ext ex) ex ⟨rfl, .inr ⟨h.size, T, [], rfl, by simp, by simp, by simp⟩⟩ rfl
theorem clone_ {A : Nat → Prop} {a0 : Sl} {l : List S_api_Event} {Q : Sl → Hp → Prop} (r : Rows A eEvent h a0 l) (hn : l.length < 2 ^ 32) (k : ∀ s' h', Ext h h' → Own eEvent h' s' l → (∀ i ∈ s'.blk, h.size ≤ i) → Q s' h') : slices_Clone_api_Event_api_Event a0 Q h := by
  unfold slices_Clone_api_Event_api_Event
  refine if_ (fun g => ?_) fun g => ?_
  · have : l = [] := by
      cases l with
      | nil => rfl
      | cons x l => obtain ⟨a, h1, _⟩ := r.2 0 x rfl; rw [h1] at g; cases g
    subst this
    exact k _ _ .refl .nil (by simp [Sl.blk, Sl.nil])
  · refine alz_ .start fun b1 h2 f2 e2 o2 hb => apps_ (e := eEvent) o2 (r.ext e2) (by simp; omega) (by simp; omega) fun s' h4 x4 o4 b4 => k _ _ (f2.e0.over x4 fun i hi => by simp [Sl.blk] at hi; omega) o4 fun i hi => ?_
    have := e2.size
    rcases b4 i hi with h | h
    · simp [Sl.blk] at h; omega
    · omega
theorem okL_app {a b : List EventM} (ha : okL a) (hb : okL b) : okL (a ++ b) := fun e he => by
  rcases List.mem_append.1 he with h | h
  · exact ha e h
  · exact hb e h
theorem modelJoined_ {a0 a1 : Sl} {la lb : List EventM} {Q : Bool → Hp → Prop} (ra : repL h a0 la) (rb : repL h a1 lb) (oka : okL la) (okb : okL lb) (k : ∀ h', Ext h h' → Q true h') : crannoglaw22_ModelJoined a0 a1 Q h := by
  unfold crannoglaw22_ModelJoined
  refine alv_ .start fun b1 h2 f2 e2 r2 hb1 => ?_
  refine small_ (ms := [la, lb]) (rows2 r2) (.cons (repL_ext ra f2.e0) (.cons (repL_ext rb f2.e0) .nil)) (by simp) fun s h4 e4 hs => if_ (fun _ => awake_ fun h6 e6 => k _ ((f2.e0.trans e4).trans e6)) fun g => ?_
  have f4 := f2.ext e4
  have s1 := hs (by simpa using g) la (by simp)
  have s2 := hs (by simpa using g) lb (by simp)
  have w1 := smL_w s1
  have w2 := smL_w s2
  have wf1 := wFold la
  have wf2 := wFold lb
  have n1 := s1.1
  have n2 := s2.1
  refine fold_ (repL_ext ra f4.e0) (by omega) (by omega) fun r7 h8 e8 d8 => fold_ (repL_ext rb (f4.ext e8).e0) (by omega) (by omega) fun r9 h10 e10 d10 => ?_
  have f10 := (f4.ext e8).ext e10
  refine states_ (repS_weak (repS_ext d8 e10) fun i hi => Nat.lt_of_lt_of_le hi.2 e10.size) (repS_weak d10 fun i hi => hi.2) (by omega) fun r11 h12 e12 d12 => ?_
  have f12 := f10.ext e12
  refine al_ f12 fun b13 h14 f14 e14 hb13 _ => st_ f14 (by simp) hb13 fun h15 f15 x15 => ?_
  have q13 := (f14.b0 b13 (by simp)).1
  have g12 := f12.e0.size
  have d15 : repS (fun i => i < h15.size ∧ i ≠ b13.block) h15 r11 (mStates (mFold la) (mFold lb)) := by
    refine repS_weak (repS_ag (repS_ext d12 e14) x15 fun i hi hA => ?_) fun i hA => ⟨?_, ?_⟩
    · simp at hi; subst hi; have := hA.2; omega
    · have := hA.2; have := e14.size; have := x15.size; omega
    · have := hA.2; omega
  refine rfold_ (repL_ext ra f15.e0) oka (by omega) (by omega) fun r16 h17 e17 d17 => kp_ f15 e17 (by simp) fun f17 => rfold_ (repL_ext rb f17.e0) okb (by omega) (by omega) fun r18 h19 e19 d19 => kp_ f17 e19 (by simp) fun f19 => ?_
  refine rstates_ (repS_weak (repS_ext d17 e19) fun i hi => Nat.lt_of_lt_of_le hi.2 e19.size) (repS_weak d19 fun i hi => hi.2) (okSt_fold _ oka) (okSt_fold _ okb) (by omega) fun r20 h21 e21 d21 => kp_ f19 e21 (by simp) fun f21 => al_ f21 fun b22 h23 f23 e23 hb22 hb22' => st_ f23 (by simp) hb22 fun h24 f24 x24 => ?_
  have hw : wS (mStates (mFold la) (mFold lb)) < 2 ^ 60 := by have := wS_le (mFold la) (mFold lb); omega
  have e24 : Ext h15 h24 := ((e17.trans e19).trans e21).trans (e23.over x24 fun i hi => by simp at hi; omega)
  have d24 : repS (fun i => h19.size ≤ i ∧ i < h21.size) h24 r20 (mStates (mFold la) (mFold lb)) := repS_ag (repS_ext d21 e23) x24 fun i hi hA => by simp at hi; omega
  have f24' := f24.drop (bs' := [b13]) (by simp)
  have d24' := repS_ext d15 e24
  refine j_ (rsame_ d24' d24 hw fun h29 e29 => kp_ f24' e29 (by simp) fun f29 => if_true ?_)
  obtain ⟨xa, ra1, ra2⟩ := id ra
  obtain ⟨xb, rb1, rb2⟩ := id rb
  have la1 := ra2.len
  have lb1 := rb2.len
  refine clone_ (ra1.ext f29.e0) (by omega) fun r31 h32 e32 o32 b32 => kp_ f29 e32 (by simp) fun f32 => ?_
  refine apps_ (e := eEvent) o32 (rb1.ext f32.e0) (by omega) (by omega) fun v33 h34 x34 o34 b34 => kpa_ f32 x34 (by simp) (fun b hb hj => ?_) ?_
  · have := (f29.b0 b hb).2; have := b32 _ hj; omega
  have e34 : Ext h29 h34 := e32.over x34 b32
  have f34 := f29.ext e34
  have rl : repL h34 v33 (la ++ lb) := ⟨xa ++ xb, o34.rows.weak fun i hi => o34.lt i hi, F2.app (ra2.imp fun _ _ _ hr => repE_ext hr f34.e0) (rb2.imp fun _ _ _ hr => repE_ext hr f34.e0)⟩
  have w3 : wL (la ++ lb) = wL la + wL lb := by simp only [wL, wsum_app]
  refine fold_ rl (by omega) (by simp; omega) fun r35 h36 e36 d36 => kp_ f34 e36 (by simp) fun f36 => ?_
  rw [← mFold_join] at d36
  exact rsame_ (repS_ext d24' ((e29.trans e34).trans e36)) d36 hw fun h38 e38 => if_true (awake_ fun h41 e41 => k _ ((f36.e0.trans e38).trans e41))
end Go.Lf
namespace Go.Proofs.YtnnlipkoedbnfaaGreat
open Go.ChangeShapes Go.WideShapes Go.ChangeAt Go.RowKit Go.Lf Go.Crn Go.Proofs.L
/-! ## what came in, as data -/
theorem f2_of {S M : Type} {R : S → M → Prop} {P : M → Prop} : ∀ {l : List S}, (∀ x ∈ l, ∃ m, R x m ∧ P m) → ∃ ms, F2 R l ms ∧ ∀ m ∈ ms, P m
  | [], _ => ⟨[], .nil, by simp⟩
  | x :: l, h => by
    obtain ⟨m, h1, h2⟩ := h x (by simp)
    obtain ⟨ms, h3, h4⟩ := f2_of (l := l) fun y hy => h y (by simp [hy])
    exact ⟨m :: ms, .cons h1 h3, fun z hz => by
      rcases List.mem_cons.1 hz with rfl | hz
      · exact h2
      · exact h4 z hz⟩
theorem len_ok {n : Nat} (h : n ≤ maxLen) : n < 2 ^ 63 := by unfold maxLen at h; omega
theorem inode_of {h : Hp} {x : S_api_Inode} (r : R56 h x) : ∃ m, repI (· < h.size) h x m ∧ okI m := by
  obtain ⟨_, _, h1, _, _, ⟨_, _, lp, h2, h3⟩, ⟨_, _, lx, h4, h5⟩⟩ := r
  exact ⟨⟨x.Id, x.Kind, x.Text, x.Attr, x.Size, lp, lx⟩, ⟨rfl, rfl, rfl, rfl, rfl, h2, h4⟩, len_ok h1, fun p hp => len_ok (h3 p hp).2.2, fun p hp => ⟨len_ok (h5 p hp).1, len_ok (h5 p hp).2.2.1⟩⟩
theorem state_of {h : Hp} {x : S_api_State} (r : R30 h x) : ∃ m, repS (· < h.size) h x m ∧ okSt m := by
  obtain ⟨_, ⟨_, _, ln, h2, h3⟩, ⟨_, _, ll, h4, h5⟩⟩ := r
  obtain ⟨ms, h6, h7⟩ := f2_of fun y hy => inode_of (h3 y hy)
  exact ⟨⟨x.Seen, ms, ll⟩, ⟨rfl, ⟨ln, h2, h6⟩, h4⟩, h7, fun p hp => len_ok (h5 p hp).2.2.2.2.1⟩
theorem event_of {h : Hp} {x : S_api_Event} (r : R32 h x) : ∃ m, repE (· < h.size) h x m ∧ okSt m.Delta := by
  obtain ⟨_, _, _, h1⟩ := r
  obtain ⟨m, h2, h3⟩ := state_of h1
  exact ⟨⟨x.At, x.Vol, x.Knew, m⟩, ⟨rfl, rfl, rfl, h2⟩, h3⟩
theorem events_of {h : Hp} {s : Sl} (r : R22 h s) : ∃ l, repL h s l ∧ okL l := by
  obtain ⟨_, _, l, h2, h3⟩ := r
  obtain ⟨ms, h6, h7⟩ := f2_of fun y hy => event_of (h3 y hy)
  exact ⟨ms, ⟨l, h2, h6⟩, h7⟩
theorem own : ownKnob Tryz.prog.godebug = none := by kernel_rfl
theorem laidOut : laidOutB Tryz.prog = true := by kernel_rfl
/-- what a walk gives is what the row asks -/
theorem close {H : Type} {enc : TypeId × Value → H} {f : FuncId} {fn : Func} {s : ChangeSpec} {W : World} {args : Array Value} {ds gs : List (DataW H)} {before : List MemPlace}
    (hc : CallsH Tryz.prog f args W.heap (Rt Value.bool fun r h' => r = true ∧ Ext W.heap h')) (ht : fn.params.toList.all (fun t => Tryz.prog.readableRec t && decide (t < Tryz.prog.types.size)) = true) (hv : s.vars = [])
    (hW : DataW.Whole enc Tryz.prog fn.params.toList s.vars false W args.toList ds gs before) (hfn : s.fn H (ds ++ gs) = { results := [.lit (.bool true)], args := ds }) (hrt : fn.resultTypes = #[4]) :
    Calls Tryz.prog f args W fun e W' => ∃ v, e = .returned v ∧ s.post enc Tryz.prog fn false true false false W args v W' := by
  refine (hc W rfl).mono ?_
  rintro e W' ⟨st, r, rfl, rfl, hx⟩
  exact ⟨_, rfl, post_law laidOut (fun t h => by have := List.all_eq_true.1 ht t h; simpa using this) hv hW hfn hrt Tryz.underlying4 hx st.os st.output⟩
end Go.Proofs.YtnnlipkoedbnfaaGreat
