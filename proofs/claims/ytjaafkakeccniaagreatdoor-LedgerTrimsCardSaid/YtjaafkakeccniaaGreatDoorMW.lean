/- Texts that stand in one. -/
import Derived.Test.YtjaafkakeccniaaGreatDoorDk
import Derived.Test.YtjaafkakeccniaaGreatDoorMD
/- A drive in memory: its variable, its map, its files. -/
namespace Go.Proofs.YtjaafkakeccniaaGreatDoor
open Go Go.Sl Go.Gv Go.Kv Go.Dv Go.Bst
set_option maxRecDepth 100000
abbrev DP := List (Fl × Nat)
abbrev fls (P : DP) : List Fl := P.map Prod.fst
def pairs (P : DP) : List (ByteArray × Option Nat) := P.map fun x => (x.1.n, some x.2)
abbrev fileC (a : Option Addr) (l c s : Nat) : List Value := [.slice a l c, int s]
def fil (x : Fl × Nat) : HProp := fun h => ∃ q : Option Addr × Nat, two (cl x.2 91 (fileC q.1 x.1.b.length q.2 x.1.s)) (sl 5 1 byteC q.1 q.2 x.1.b) h
def files (P : DP) : HProp := big (P.map fil)
abbrev driveC (most : Int) (m : Nat) : List Value := [int most, .map (some m)]
def drv (b : Nat) (most : Int) (D : List Fl) : HProp := fun h => ∃ y : Nat × DP, (fls y.2 = D ∧ Ok most D) ∧ two (cl b 62 (driveC most y.1)) (two (mp strV pv y.1 (pairs y.2)) (files y.2)) h
section
variable {w0 w : World} {n : Nat} {env : Env} {H : List HProp} {X : Act → World → Prop}
theorem Gs.drvOpen {b : Nat} {most : Int} {D : List Fl} {H' : List HProp} (t : Take (drv b most D) H H')
    (g : ∀ m P, fls P = D → Ok most D → Gs w0 n env (cl b 62 (driveC most m) :: mp strV pv m (pairs P) :: files P :: H') X) : Gs w0 n env H X := fun a w e s => by
  obtain ⟨⟨m, P⟩, s1⟩ := (s.take t).ex
  obtain ⟨⟨h1, h2⟩, s2⟩ := s1.pure
  have s3 := (Sat.two.1 s2).take (.tl .hd)
  exact g m P h1 h2 a w e ((Sat.two.1 s3).takes (As := [cl b 62 (driveC most m), mp strV pv m (pairs P), files P]) (by repeat constructor))
theorem Gs.drvClose {b m : Nat} {most : Int} {P : DP} {D : List Fl} {H' : List HProp} (t : Takes [cl b 62 (driveC most m), mp strV pv m (pairs P), files P] H H') (h1 : fls P = D) (h2 : Ok most D)
    (g : Gs w0 n env (drv b most D :: H') X) : Gs w0 n env H X := fun a w e s => by
  have s1 := s.takes t
  have s2 : Sat w0 w (two (mp strV pv m (pairs P)) (files P) :: cl b 62 (driveC most m) :: H') := Sat.two.2 (s1.takes (As := [mp strV pv m (pairs P), files P, cl b 62 (driveC most m)]) (by repeat constructor))
  have s3 := Sat.two.2 (s2.take (.tl .hd))
  exact g a w e (s3.ent fun h x => ⟨(m, P), ⟨h1, h2⟩, x⟩)
theorem Gs.drvOk {b : Nat} {most : Int} {D : List Fl} {H' : List HProp} (t : Take (drv b most D) H H') (g : Ok most D → Gs w0 n env H X) : Gs w0 n env H X := fun a w e s => by
  obtain ⟨y, s1⟩ := (s.take t).ex
  exact g s1.pure.1.2 a w e s
/-- How much a drive may hold, read off it as a whole. -/
theorem Rdc.drvMost {b : Nat} {most : Int} {D : List Fl} {H' : List HProp} (t : Take (drv b most D) H H') : Rdc w0 H b 0 [int most] := fun w s j v hj => by
  obtain ⟨⟨m, P⟩, s1⟩ := (s.take t).ex
  obtain ⟨-, s2⟩ := s1.pure
  have h := Sat.cl (Sat.two.1 s2)
  cases j with
  | zero => simp at hj; subst hj; exact cell_of h 0
  | succ j => simp at hj
theorem Gs.filOpen {U V : DP} {f : Fl} {p : Nat} {H' : List HProp} (t : Take (files (U ++ (f, p) :: V)) H H')
    (g : ∀ a c, Gs w0 n env (cl p 91 (fileC a f.b.length c f.s) :: sl 5 1 byteC a c f.b :: files (U ++ V) :: H') X) : Gs w0 n env H X := fun a w e s => by
  have s1 := s.take t
  unfold files at s1
  rw [List.map_append, List.map_cons] at s1
  have s2 := Sat.mid.1 s1
  obtain ⟨⟨q1, q2⟩, s3⟩ := s2.ex
  have s4 := Sat.two.1 s3
  rw [← List.map_append] at s4
  exact g q1 q2 a w e s4
theorem Gs.filClose {U V : DP} {f : Fl} {p : Nat} {l s : Nat} {bs : List UInt8} {a : Option Addr} {c : Nat} {H' : List HProp} (t : Takes [cl p 91 (fileC a l c s), sl 5 1 byteC a c bs, files (U ++ V)] H H') (hl : l = f.b.length) (hb : bs = f.b) (hs : s = f.s)
    (g : Gs w0 n env (files (U ++ (f, p) :: V) :: H') X) : Gs w0 n env H X := fun ac w e st => by
  subst hl; subst hb; subst hs
  have s1 := st.takes t
  have s2 : Sat w0 w (fil (f, p) :: files (U ++ V) :: H') := (Sat.two.2 s1).ent fun h x => ⟨(a, c), x⟩
  refine g ac w e ?_
  unfold files at s2 ⊢
  rw [List.map_append] at s2
  rw [List.map_append, List.map_cons]
  exact Sat.mid.2 s2
theorem Gs.filNew {U : DP} {f : Fl} {p : Nat} {l s : Nat} {bs : List UInt8} {a : Option Addr} {c : Nat} {H' : List HProp} (t : Takes [cl p 91 (fileC a l c s), sl 5 1 byteC a c bs, files U] H H') (hl : l = f.b.length) (hb : bs = f.b) (hs : s = f.s)
    (g : Gs w0 n env (files (U ++ [(f, p)]) :: H') X) : Gs w0 n env H X :=
  Gs.filClose (U := U) (V := []) (by rw [List.append_nil]; exact t) hl hb hs g
/-- A file that is dropped stays behind. -/
theorem Gs.filesNil (g : Gs w0 n env (files [] :: H) X) : Gs w0 n env H X := fun a w e s => g a w e (Sat.bigs.2 s)
end
/-- A name is there, or is not. -/
theorem find_at {P : DP} (hn : (names (fls P)).Nodup) (n : ByteArray) : (lookF (fls P) n = none ∧ mget (pairs P) n = none) ∨
    ∃ U f p V, P = U ++ (f, p) :: V ∧ f.n = n ∧ lookF (fls P) n = some f ∧ mget (pairs P) n = some (some p) ∧ (∀ g, upd (fls P) n g = fls U ++ g f :: fls V) ∧ del (fls P) n = fls (U ++ V) ∧
      mdel (pairs P) n = pairs (U ++ V) ∧ (∀ f' : Fl, f'.n = n → pairs (U ++ (f', p) :: V) = pairs P) ∧ (∀ (f' : Fl) q, f'.n = n → mput (pairs P) n (some q) = pairs (U ++ (f', q) :: V)) := by
  induction P with
  | nil => exact .inl ⟨rfl, rfl⟩
  | cons x P ih =>
    obtain ⟨y, q⟩ := x
    simp only [fls, names, List.map_cons, List.nodup_cons] at hn
    by_cases hx : y.n = n
    · refine .inr ⟨[], y, q, P, rfl, hx, ?_, ?_, ?_, ?_, ?_, ?_, ?_⟩
      · simp [lookF, hx]
      · simp [pairs, mget, hx]
      · intro g
        have hne : ∀ z ∈ fls P, z.n ≠ n := fun z hz e => hn.1 (by rw [hx, ← e]; exact List.mem_map_of_mem hz)
        simp only [upd, List.map_cons, hx, if_true, List.map_nil, List.nil_append, List.cons.injEq, true_and]
        conv => rhs; rw [← List.map_id (fls P)]
        exact List.map_congr_left fun z hz => by simp [hne z hz]
      · have hne : ∀ z ∈ fls P, z.n ≠ n := fun z hz e => hn.1 (by rw [hx, ← e]; exact List.mem_map_of_mem hz)
        simp only [del, List.map_cons, List.filter_cons, hx, List.nil_append, ne_eq, not_true_eq_false, decide_false, Bool.false_eq_true, if_false]
        exact List.filter_eq_self.2 fun z hz => by simpa using hne z hz
      · simp [pairs, mdel, hx]
      · intro f' hf; simp [pairs, hf, hx]
      · intro f' q' hf; simp [pairs, mput, hf, hx]
    · have hx' : ¬ n = y.n := fun e => hx e.symm
      rcases ih hn.2 with ⟨h1, h2⟩ | ⟨U, f, p, V, e0, e1, e2, e3, e4, e5, e6, e7, e8⟩
      · refine .inl ⟨?_, ?_⟩
        · simpa [lookF, hx] using h1
        · simp only [pairs, List.map_cons, mget, hx', if_false]; exact h2
      · refine .inr ⟨(y, q) :: U, f, p, V, by rw [e0]; rfl, e1, ?_, ?_, ?_, ?_, ?_, ?_, ?_⟩
        · simpa [lookF, hx] using e2
        · simp only [pairs, List.map_cons, mget, hx', if_false]; exact e3
        · intro g
          have := e4 g
          simp only [upd, fls, List.map_cons, hx, if_false, List.cons_append] at this ⊢
          rw [this]
        · simp only [del, fls, List.map_cons, List.filter_cons, ne_eq, hx, not_false_eq_true, decide_true, if_true, List.cons_append] at e5 ⊢
          rw [e5]
        · simp only [pairs, List.map_cons, mdel, hx', if_false, List.cons_append] at e6 ⊢
          rw [e6]
        · intro f' hf
          have := e7 f' hf
          simp only [pairs, List.map_cons, List.cons_append] at this ⊢
          rw [this]
        · intro f' q' hf
          have := e8 f' q' hf
          simp only [pairs, List.map_cons, mput, hx', if_false, List.cons_append] at this ⊢
          rw [this]
theorem mput_new {κ ν : Type} [DecidableEq κ] {k : κ} {v : ν} : ∀ (m : List (κ × ν)), mget m k = none → mput m k v = m ++ [(k, v)]
  | [], _ => rfl
  | (k', v') :: r, h => by
    simp only [mget] at h
    by_cases hk : k = k'
    · simp [hk] at h
    · simp only [hk, if_false] at h
      simp only [mput, hk, if_false, List.cons_append, mput_new r h]
theorem pairs_new {P : DP} {f : Fl} {p : Nat} (h : mget (pairs P) f.n = none) : mput (pairs P) f.n (some p) = pairs (P ++ [(f, p)]) := by
  rw [mput_new _ h]; simp [pairs]
theorem mkeys_pairs (P : DP) : mkeys (pairs P) = names (fls P) := by simp [mkeys, pairs, names, fls, Function.comp_def]
theorem length_pairs (P : DP) : (pairs P).length = (fls P).length := by simp [pairs]
end Go.Proofs.YtjaafkakeccniaaGreatDoor

/- Walks: slices.Clone of bytes; SameBytes, Low, SameTexts. -/
namespace Go.Proofs.YtjaafkakeccniaaGreatDoor
open Go Go.Sl Go.Gv Go.Kv Go.Dv Go.Bst
set_option maxRecDepth 100000
theorem cloneB_spec {S : HProp} {a : Option Addr} {c : Nat} {xs : List UInt8} (hS : Srd S 1 byteC a xs) (hl : xs.length ≤ 1048576) :
    Ct Tryz.prog 80 [.slice a xs.length c] [S] (fun v hs => ∃ a' c', v = .slice a' xs.length c' ∧ hs = [S, sl 5 1 byteC a' c' xs]) := by
  refine Ct.intro Tryz.func80 rfl (by kernel_rfl) 8 Tryz.ntmps80 (Nat.le_of_ble_eq_true rfl) fun w0 R => ?_
  refine Gs.slAddr (hS.h (by repeat constructor)) fun ab ao ha => ?_
  refine Gs.seq ?_
  refine Gs.reg ?_
  refine Go.Sl.L.pu rfl rfl trivial (pu_assign rfl) ?_
  refine Go.Sl.L.nil ?_
  refine Gs.then_n ?_
  refine Gs.seq ?_
  refine Gs.seq ?_
  refine Gs.reg ?_
  refine Go.Sl.L.pu rfl rfl trivial (pu_move rfl) ?_
  refine Go.Sl.L.pu rfl rfl trivial (pu_eqL Tryz.underlying75 rfl rfl) ?_
  refine Go.Sl.L.nil ?_
  refine Gs.then_n ?_
  refine Gs.cond rfl (fun hc0 => ?_) (fun hc0 => ?_)
  · skip
    have hx : xs = [] := by
      apply Classical.byContradiction; intro hne; rw [ha hne] at hc0; cases hc0
    subst hx
    refine Gs.slNil 5 1 byteC ?_
    refine Gs.seq ?_
    refine Gs.reg ?_
    refine Go.Sl.L.pu rfl rfl trivial (pu_assign rfl) ?_
    refine Go.Sl.L.nil ?_
    refine Gs.then_n ?_
    refine Gs.ret ?_
    refine Gs.then_r ?_
    exact Gs.fin1 Tryz.results80 rfl _ (⟨none, 0, rfl, rfl⟩) (by repeat constructor)
  · skip
    refine Gs.skip ?_
    refine Gs.then_n ?_
    refine Gs.seq ?_
    refine Gs.reg ?_
    refine Go.Sl.L.ac rfl rfl trivial (ac_lit encC_5 ([]) et_75 ek_5 rfl (by repeat constructor) rfl rfl (by decide)) ?_
    rintro _ _ ⟨a5, rfl, rfl⟩
    refine Go.Sl.L.pu rfl rfl trivial (pu_move rfl) ?_
    refine Go.Sl.L.ac rfl rfl trivial (ac_append et_75 ek_5 rfl rfl (by repeat constructor) (SrcH.sl Tryz.underlying75 ek_5 (hS.h (by repeat constructor))) (by first | omega | (simp; omega)) (by first | omega | (simp; omega))) ?_
    rintro _ _ ⟨a7, c7, rfl, rfl⟩
    refine Go.Sl.L.pu rfl rfl trivial (pu_assign rfl) ?_
    refine Go.Sl.L.nil ?_
    refine Gs.then_n ?_
    refine Gs.ret ?_
    exact Gs.fin1 Tryz.results80 rfl _ (⟨a7, c7, by simp, rfl⟩) (by repeat constructor)
end Go.Proofs.YtjaafkakeccniaaGreatDoor

