/- Walk: ledger.Open. -/
import Derived.Test.YtjaafkakeccniaaGreatDoorLgc
namespace Go.Proofs.YtjaafkakeccniaaGreatDoor
open Go Go.Sl Go.Gv Go.Dv Go.Bst
set_option maxRecDepth 100000
theorem name_pre (k : Nat) : Lib.hasPrefix (nameK k).data.toList (⟨#[108, 111, 103, 46]⟩ : ByteArray).data.toList = true := rfl
theorem name_atoi {k : Nat} (h : k < 100) : Lib.atoi ((nameK k).extract 4 13).data.toList = some (k : Int) := by
  have h1 : ∀ k : Fin 100, decide (Lib.atoi ((nameL k.val).drop 4) = some (k.val : Int)) = true := by decide +kernel
  have h2 := of_decide_eq_true (h1 ⟨k, h⟩)
  have e : ((nameK k).extract 4 13).data.toList = (nameL k).drop 4 := by rw [Lib.extract_data]; rfl
  rw [e]; exact h2
theorem readF_len (n : Int) (D : List Fl) (nm : ByteArray) : (readF n D nm).es.length ≤ (bytesF D nm).length := by
  have h := (readS_all n (bytesF D nm).length true (bytesF D nm)).2.2
  unfold readF
  dsimp only
  split
  · exact Nat.zero_le _
  · exact h
theorem bytes_le {most : Int} {D : List Fl} (hok : Ok most D) (nm : ByteArray) : (bytesF D nm).length ≤ 1048576 := by
  unfold bytesF
  cases hf : lookF D nm with
  | none => simp
  | some f =>
    obtain ⟨X, Y, e1, -, -, -⟩ := lookF_split hok.nd hf
    have h2 := used_mem (D := D) (f := f) (by rw [e1]; simp)
    have h3 := hok.room
    have h4 := hok.hi
    dsimp only; omega
theorem openL_take {n : Int} {ks : List Nat} {i k : Nat} (h : ks[i]? = some k) (o : OOut) : openL n (ks.take (i + 1)) o = openL n [k] (openL n (ks.take i) o) := by
  rw [List.take_add_one, h]; exact openL_snoc ..
theorem openL_made (n : Int) : ∀ (ks : List Nat) (o : OOut) (t : Nat), o.L.made ≤ t → (∀ k ∈ ks, k ≤ t) → (openL n ks o).L.made ≤ t
  | [], _, _, h, _ => h
  | k :: ks, o, t, h, hk => openL_made n ks _ t (by show max o.L.made k ≤ t; have := hk k (by simp); omega) fun j hj => hk j (by simp [hj])
theorem readF_ps (n : Int) (D : List Fl) (nm : ByteArray) : (readF n D nm).ps.length ≤ 1 := by
  unfold readF; dsimp only; split <;> simp
theorem openL_ps (n : Int) : ∀ (ks : List Nat) (o : OOut), (openL n ks o).L.ps.length ≤ o.L.ps.length + ks.length
  | [], _ => Nat.le_refl _
  | k :: ks, o => by
    have h := openL_ps n ks ⟨(readF n o.D (nameK k)).D, ⟨max o.L.made k, o.L.ps ++ (readF n o.D (nameK k)).ps⟩, o.out ++ (readF n o.D (nameK k)).es⟩
    have h2 := readF_ps n o.D (nameK k)
    rw [openL]
    simp only [List.length_append, List.length_cons] at h ⊢
    omega
abbrev zeroB (n : Int) : EntP := baseE (zeros n) (zeros n)
theorem zeroB_may {n : Int} (h1 : 1 ≤ n) (h8 : n ≤ 8) : mayE (zeroB n) n = true := by
  have hv : vecB (zeros n) n = true := by
    rw [vecB_eq]
    simp only [manyB, zeros, Bool.and_eq_true, decide_eq_true_eq, List.length_replicate, List.all_eq_true]
    refine ⟨⟨⟨h1, h8⟩, by omega⟩, fun x hx => ?_⟩
    rw [List.eq_of_mem_replicate hx]; rfl
  have hb : ∀ l : List Int, belowB l l = true := fun l => by
    induction l with
    | nil => rfl
    | cons x l ih => show (decide (x ≤ x) && belowB l l) = true; rw [ih]; simp
  rw [may_base rfl]
  show (decide (Rec.zero = Rec.zero) && vecB (zeros n) n && vecB (zeros n) n && belowB (zeros n) (zeros n)) = true
  rw [hv, hb]; simp
/-- What an opening of a drive answers. -/
structure OpR where
  code : Int
  D : List Fl
  L : Lg
  out : List EntP
def openA (most n : Int) (ks : List Nat) (D : List Fl) : OpR :=
  let o := openL n ks ⟨D, ⟨0, []⟩, []⟩
  if o.L.ps ≠ [] then ⟨0, o.D, o.L, o.out⟩
  else if appE most o.D (nameK (o.L.made + 1)) (layE (zeroB n)) = 0 then ⟨0, appL most o.D (nameK (o.L.made + 1)) (layE (zeroB n)), ⟨o.L.made + 1, [⟨nameK (o.L.made + 1), (layE (zeroB n)).length, zeros n⟩]⟩, [zeroB n]⟩
  else ⟨appE most o.D (nameK (o.L.made + 1)) (layE (zeroB n)), o.D, ⟨0, []⟩, []⟩
section
variable {w0 : World} {nn : Nat} {env : Env} {H : List HProp} {X : Act → World → Prop}
theorem Gs.elOpen {a : Option Addr} {c : Nat} {es : List EntV} {H' : List HProp} (t : Take (elO a c es) H H') (g : Gs w0 nn env (sl 43 8 entC a c es :: big (es.map entO) :: H') X) : Gs w0 nn env H X := fun ac w e s => g ac w e (Sat.two.1 (s.take t))
theorem Gs.elClose {a : Option Addr} {c : Nat} {es : List EntV} {H' : List HProp} (t : Takes [sl 43 8 entC a c es, big (es.map entO)] H H') (g : Gs w0 nn env (elO a c es :: H') X) : Gs w0 nn env H X := fun ac w e s => g ac w e (Sat.two.2 (s.takes t))
theorem Gs.elNil (g : Gs w0 nn env (elO none 0 [] :: H) X) : Gs w0 nn env H X :=
  Gs.slNil 43 8 entC (Gs.bigNil (Gs.elClose (.cons (.tl .hd) (.cons .hd .nil)) g))
theorem Gs.bigApp {L M H' : List HProp} (t : Takes [big L, big M] H H') (g : Gs w0 nn env (big (L ++ M) :: H') X) : Gs w0 nn env H X := fun ac w e s => by
  have s1 : Sat w0 w (big L :: big M :: H') := s.takes t
  have s2 : Sat w0 w (L ++ big M :: H') := Sat.big.1 s1
  have s3 : Sat w0 w (big M :: (L ++ H')) := s2.take (take_mid (L1 := L) (L2 := H'))
  have s4 : Sat w0 w (M ++ (L ++ H')) := Sat.big.1 s3
  refine g ac w e (Sat.big.2 (s4.imp fun h x => ?_))
  obtain ⟨h1, h2, d, rfl, m, y⟩ := big_append.1 x
  obtain ⟨h3, h4, d2, rfl, l, z⟩ := big_append.1 y
  obtain ⟨da, db⟩ := Hp.disj_un.1 d
  rw [List.append_assoc]
  refine big_append.2 ⟨h3, h1.un h4, Hp.disj_un.2 ⟨da.symm, d2⟩, ?_, l, big_append.2 ⟨h1, h4, db, rfl, m, z⟩⟩
  rw [← Hp.un_assoc, ← Hp.un_assoc, Hp.un_comm da]
end
theorem openBad_spec (d : Nat) {n : Int} (h : ¬ (1 ≤ n ∧ n ≤ 8)) : Ct Tryz.prog 12 [ptr d, int n] [] (fun v hs => v = .tuple #[.pointer none, .slice none 0 0, int 2] ∧ hs = []) := by
  refine Ct.intro Tryz.func12 rfl (by kernel_rfl) 107 Tryz.ntmps12 (Nat.le_of_ble_eq_true rfl) fun w0 R => ?_
  refine Gs.seq ?_
  refine Gs.reg ?_
  refine Go.Sl.L.pu rfl rfl trivial (pu_assign rfl) ?_
  refine Go.Sl.L.pu rfl rfl trivial (pu_assign rfl) ?_
  refine Go.Sl.L.pu rfl rfl trivial (pu_assign rfl) ?_
  refine Go.Sl.L.nil ?_
  refine Gs.then_n ?_
  refine Gs.seq ?_
  refine Gs.block ?_
  refine Gs.seq ?_
  refine Gs.reg ?_
  refine Go.Sl.L.pu rfl rfl trivial (pu_move rfl) ?_
  refine Go.Sl.L.pu rfl rfl trivial (pu_eqN Tryz.underlying26 rfl rfl) ?_
  refine Go.Sl.L.pu rfl rfl trivial (pu_assign rfl) ?_
  refine Go.Sl.L.nil ?_
  refine Gs.then_n ?_
  refine Gs.cond_f rfl ?_
  refine Gs.seq ?_
  refine Gs.reg ?_
  refine Go.Sl.L.pu rfl rfl trivial (pu_move rfl) ?_
  refine Go.Sl.L.pu rfl rfl trivial (pu_lt rfl rfl) ?_
  refine Go.Sl.L.puB rfl rfl trivial (pu_move rfl) (fun hg2 => ?_) (fun hg2 => ?_)
  · skip
    refine Go.Sl.L.off rfl rfl rfl rfl rfl rfl ?_
    refine Go.Sl.L.off rfl rfl rfl rfl rfl rfl ?_
    refine Go.Sl.L.pu rfl rfl trivial (by first | exact pu_pick_t rfl rfl | exact pu_pick_f rfl rfl) ?_
    refine Go.Sl.L.pu rfl rfl trivial (pu_assign rfl) ?_
    refine Go.Sl.L.nil ?_
    refine Gs.then_n ?_
    refine Gs.cond_t rfl ?_
    refine Gs.seq ?_
    refine Gs.reg ?_
    refine Go.Sl.L.pu rfl rfl trivial (pu_assign rfl) ?_
    refine Go.Sl.L.pu rfl rfl trivial (pu_assign rfl) ?_
    refine Go.Sl.L.pu rfl rfl trivial (pu_assign rfl) ?_
    refine Go.Sl.L.nil ?_
    refine Gs.then_n ?_
    refine Gs.ret ?_
    refine Gs.blk_r ?_
    refine Gs.then_r ?_
    exact Gs.fin3 Tryz.results12 rfl rfl rfl  _ (⟨rfl, rfl⟩) (by repeat constructor)
  · skip
    have h1 := of_decide_eq_false hg2
    refine Go.Sl.L.pu rfl rfl ⟨_, rfl, rfl⟩ (pu_move rfl) ?_
    refine Go.Sl.L.pu rfl rfl ⟨_, rfl, rfl⟩ (pu_gt rfl rfl) ?_
    refine Go.Sl.L.pu rfl rfl trivial (by first | exact pu_pick_t rfl rfl | exact pu_pick_f rfl rfl) ?_
    refine Go.Sl.L.pu rfl rfl trivial (pu_assign rfl) ?_
    refine Go.Sl.L.nil ?_
    refine Gs.then_n ?_
    refine Gs.cond_tt rfl (by first | rfl | exact decide_eq_true (by omega)) ?_
    refine Gs.seq ?_
    refine Gs.reg ?_
    refine Go.Sl.L.pu rfl rfl trivial (pu_assign rfl) ?_
    refine Go.Sl.L.pu rfl rfl trivial (pu_assign rfl) ?_
    refine Go.Sl.L.pu rfl rfl trivial (pu_assign rfl) ?_
    refine Go.Sl.L.nil ?_
    refine Gs.then_n ?_
    refine Gs.ret ?_
    refine Gs.blk_r ?_
    refine Gs.then_r ?_
    exact Gs.fin3 Tryz.results12 rfl rfl rfl  _ (⟨rfl, rfl⟩) (by repeat constructor)
end Go.Proofs.YtjaafkakeccniaaGreatDoor
