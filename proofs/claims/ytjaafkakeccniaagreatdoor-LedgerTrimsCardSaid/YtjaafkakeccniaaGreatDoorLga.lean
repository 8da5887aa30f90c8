/- A ledger in memory. Walks: ledger.call, note, begin. -/
import Derived.Test.YtjaafkakeccniaaGreatDoorSegd
import Derived.Test.YtjaafkakeccniaaGreatDoorLgw
import Derived.Test.YtjaafkakeccniaaGreatDoorNum
namespace Go.Sl
open Go
section
variable {P : Program} {env : Env} {d : Option Tmp} {x z : Operand} {T ty : TypeId} {pos : String} {af : Array Edge} {g : Option (Nat × Bool)}
theorem pu_sliceLS {s : ByteArray} {k : IntKind} {j : Int} (ht : P.underlying T = some .string) (hx : ev env x = some (.string s)) (hz : ev env z = some (.int k j)) (h0 : 0 ≤ j) (h1 : j ≤ s.size) :
    Pu P ⟨d, .slice T x (some z) none none, ty, pos, af, g⟩ env (.string (s.extract j.toNat s.size)) := fun ρ w e => by
  refine run_v (s := Instr.sliceAt T (ρ x) (some (ρ z)) none none) ?_
  rw [e.eval hx, e.eval hz]
  have hu : (underlying T).run P w = .ok .string w := by simp [underlying, ht, go_sem]
  unfold Instr.sliceAt
  simp only [Sem.run_bind, hu, Result.andThen_ok]
  unfold Instr.slice
  simp only [Sem.run_bind, hu, Result.andThen_ok]
  simp [go_sem, Instr.sliceBounds, Instr.sliceBound, asIntOf, h0, h1]
end
end Go.Sl
namespace Go.Proofs.YtjaafkakeccniaaGreatDoor
open Go Go.Sl Go.Gv Go.Dv
set_option maxRecDepth 100000
/-- A segment's note, and where its numbers lie. -/
structure PaV where
  p : Pa
  a : Option Addr
  c : Nat
abbrev paC (x : PaV) : List Value := [.string x.p.n, int (x.p.z : Nat), .slice x.a x.p.t.length x.c]
abbrev encC_83 : PaV → List Value := paC
theorem ek_83 : EncOk 3 paC := ⟨fun _ => rfl, fun x v hv => by
  simp only [paC, List.mem_cons, List.not_mem_nil, or_false] at hv
  rcases hv with rfl | rfl | rfl <;> rfl⟩
def topO (x : PaV) : HProp := sl 3 1 intC x.a x.c x.p.t
abbrev lgC (d : Nat) (n : Int) (made : Nat) (a : Option Addr) (l c : Nat) : List Value := [ptr d, int n, int (made : Nat), .slice a l c]
/-- A ledger: its variable, its notes. -/
def lgr (b d : Nat) (n : Int) (L : Lg) : HProp := fun h => ∃ y : Option Addr × Nat × List PaV, y.2.2.map PaV.p = L.ps ∧ two (cl b 65 (lgC d n L.made y.1 y.2.2.length y.2.1)) (two (sl 83 3 paC y.1 y.2.1 y.2.2) (big (y.2.2.map topO))) h
section
variable {w0 : World} {nn : Nat} {env : Env} {H : List HProp} {X : Act → World → Prop}
theorem Gs.lgOpen {b d : Nat} {n : Int} {made : Nat} {ps : List Pa} {H' : List HProp} (t : Take (lgr b d n ⟨made, ps⟩) H H')
    (g : ∀ a c P, P.map PaV.p = ps → Gs w0 nn env (cl b 65 (lgC d n made a P.length c) :: sl 83 3 paC a c P :: big (P.map topO) :: H') X) : Gs w0 nn env H X := fun ac w e s => by
  obtain ⟨⟨a, c, P⟩, s1⟩ := (s.take t).ex
  obtain ⟨h1, s2⟩ := s1.pure
  have s3 := (Sat.two.1 s2).take (.tl .hd)
  exact g a c P h1 ac w e ((Sat.two.1 s3).takes (As := [cl b 65 (lgC d n made a P.length c), sl 83 3 paC a c P, big (P.map topO)]) (by repeat constructor))
theorem Gs.lgClose {b d : Nat} {n : Int} {made : Nat} {ps : List Pa} {a : Option Addr} {c l : Nat} {P : List PaV} {H' : List HProp} (t : Takes [cl b 65 (lgC d n made a l c), sl 83 3 paC a c P, big (P.map topO)] H H') (hl : l = P.length) (h : P.map PaV.p = ps)
    (g : Gs w0 nn env (lgr b d n ⟨made, ps⟩ :: H') X) : Gs w0 nn env H X := fun ac w e s => by
  subst hl
  have s1 := s.takes t
  have s2 : Sat w0 w (two (sl 83 3 paC a c P) (big (P.map topO)) :: cl b 65 (lgC d n made a P.length c) :: H') := Sat.two.2 (s1.takes (As := [sl 83 3 paC a c P, big (P.map topO), cl b 65 (lgC d n made a P.length c)]) (by repeat constructor))
  have s3 := Sat.two.2 (s2.take (.tl .hd))
  exact g ac w e (s3.ent fun h' x => ⟨(a, c, P), h, x⟩)
end
/-! ### Names -/
theorem name_of {k : Nat} (h : k < 100) : (⟨#[108, 111, 103, 46]⟩ : ByteArray) ++ (⟨(Lib.repeatL [48] (9 - (Lib.decDigits k).length)).toArray⟩ : ByteArray) ++ (⟨(Lib.decDigits k).toArray⟩ : ByteArray) = nameK k := by
  have e : ∀ (a b : List UInt8), (⟨a.toArray⟩ : ByteArray) ++ (⟨b.toArray⟩ : ByteArray) = ⟨(a ++ b).toArray⟩ := fun a b => by
    apply ByteArray.ext
    simp
  have e0 : (⟨#[108, 111, 103, 46]⟩ : ByteArray) = ⟨([108, 111, 103, 46] : List UInt8).toArray⟩ := rfl
  rw [e0, e, e]
  refine congrArg (fun l : List UInt8 => (⟨l.toArray⟩ : ByteArray)) ?_
  rw [Lib.decDigits]
  by_cases h1 : k < 10
  · rw [dif_pos h1]
    have e1 : k / 10 = 0 := by omega
    have e2 : k % 10 = k := by omega
    simp only [nameL, dig, e1, e2, List.length_cons, List.length_nil, Nat.zero_add, Nat.add_zero]
    rfl
  · rw [dif_neg h1, Lib.decDigits, dif_pos (by omega)]
    simp only [nameL, dig, List.length_append, List.length_cons, List.length_nil]
    rfl
theorem dec_len {k : Nat} (h : k < 100) : 1 ≤ (Lib.decDigits k).length ∧ (Lib.decDigits k).length ≤ 2 := by
  rw [Lib.decDigits]
  by_cases h1 : k < 10
  · rw [dif_pos h1]; simp
  · rw [dif_neg h1, Lib.decDigits, dif_pos (by omega)]; simp
theorem rep_len (c : Nat) : (Lib.repeatL [48] c).length = c := by rw [Lib.repeatL_length]; simp
theorem call_spec {b d : Nat} {n : Int} {made : Nat} {ps : List Pa} (h : made + 1 < 100) :
    Ct Tryz.prog 34 [ptr b] [lgr b d n ⟨made, ps⟩] (fun v hs => v = .string (nameK (made + 1)) ∧ hs = [lgr b d n ⟨made + 1, ps⟩]) := by
  have hdl := dec_len h
  have hrl := rep_len (9 - (Lib.decDigits (made + 1)).length)
  refine Ct.intro Tryz.func34 rfl (by kernel_rfl) 23 Tryz.ntmps34 (Nat.le_of_ble_eq_true rfl) fun w0 R => ?_
  refine Gs.lgOpen (by repeat constructor) fun a c P hP => ?_
  refine Gs.seq ?_
  refine Gs.reg ?_
  refine Go.Sl.L.pu rfl rfl trivial (pu_assign rfl) ?_
  refine Go.Sl.L.nil ?_
  refine Gs.then_n ?_
  refine Gs.seq ?_
  refine Gs.reg ?_
  refine Go.Sl.L.pu rfl rfl trivial (pu_move rfl) ?_
  refine Go.Sl.L.pu rfl rfl trivial (by first | exact pu_nil rfl | exact pu_nilF rfl) ?_
  refine Go.Sl.L.pu rfl rfl trivial (pu_fa fa_65_2 rfl) ?_
  refine Go.Sl.L.rd rfl rfl trivial (rd_ld na_3 rfl (Rdc.cl1 (by repeat constructor) rfl)) ?_
  refine Go.Sl.L.pu rfl rfl trivial (pu_addI (z := ((made + 1 : Nat) : Int)) rfl rfl (by omega) (by omega) (by omega)) ?_
  refine Go.Sl.L.pu rfl rfl trivial (by first | exact pu_nil rfl | exact pu_nilF rfl) ?_
  refine Go.Sl.L.pu rfl rfl trivial (pu_fa fa_65_2 rfl) ?_
  refine Go.Sl.L.ac0 rfl trivial (ac_st sz_3 rfl rfl (by repeat constructor) rfl rfl rfl rfl) ?_
  rintro _ _ rfl
  refine Go.Sl.L.nil ?_
  refine Gs.then_n ?_
  refine Gs.seq ?_
  refine Gs.reg ?_
  refine Go.Sl.L.pu rfl rfl trivial (pu_move rfl) ?_
  refine Go.Sl.L.pu rfl rfl trivial (by first | exact pu_nil rfl | exact pu_nilF rfl) ?_
  refine Go.Sl.L.pu rfl rfl trivial (pu_fa fa_65_2 rfl) ?_
  refine Go.Sl.L.rd rfl rfl trivial (rd_ld na_3 rfl (Rdc.cl1 (by repeat constructor) rfl)) ?_
  refine Go.Sl.L.ac rfl rfl trivial (as_call (itoa_spec (made + 1) h) (by repeat constructor) (by repeat constructor)) ?_
  rintro _ _ ⟨_, ⟨rfl, rfl⟩, rfl⟩
  refine Go.Sl.L.pu rfl rfl trivial (pu_assign rfl) ?_
  refine Go.Sl.L.nil ?_
  refine Gs.then_n ?_
  refine Gs.seq ?_
  refine Gs.reg ?_
  refine Go.Sl.L.pu rfl rfl trivial (pu_move rfl) ?_
  refine Go.Sl.L.pu rfl rfl trivial (pu_lenS Tryz.underlying9 rfl) ?_
  rw [show ((⟨(Lib.decDigits (made + 1)).toArray⟩ : ByteArray).size) = (Lib.decDigits (made + 1)).length from rfl]
  refine Go.Sl.L.pu rfl rfl trivial (pu_subI (z := ((9 - (Lib.decDigits (made + 1)).length : Nat) : Int)) rfl rfl (by omega) (by omega) (by omega)) ?_
  refine Go.Sl.L.ac rfl rfl trivial (as_call (repeat_spec ⟨#[48]⟩ (9 - (Lib.decDigits (made + 1)).length) (by omega) (by decide)) (by repeat constructor) (by repeat constructor)) ?_
  rintro _ _ ⟨_, ⟨rfl, rfl⟩, rfl⟩
  refine Go.Sl.L.pu rfl rfl trivial (pu_addS (by show 4 + (Lib.repeatL [48] (9 - (Lib.decDigits (made + 1)).length)).length ≤ _; omega) rfl rfl) ?_
  refine Go.Sl.L.pu rfl rfl trivial (pu_move rfl) ?_
  refine Go.Sl.L.pu rfl rfl trivial (pu_addS (by rw [ByteArray.size_append]; show 4 + (Lib.repeatL [48] (9 - (Lib.decDigits (made + 1)).length)).length + (Lib.decDigits (made + 1)).length ≤ _; omega) rfl rfl) ?_
  rw [show (⟨#[108, 111, 103, 46]⟩ : ByteArray) ++ (⟨(Lib.repeatL ([48] : List UInt8) (9 - (Lib.decDigits (made + 1)).length)).toArray⟩ : ByteArray) ++ (⟨(Lib.decDigits (made + 1)).toArray⟩ : ByteArray) = nameK (made + 1) from name_of h]
  refine Go.Sl.L.pu rfl rfl trivial (pu_assign rfl) ?_
  refine Go.Sl.L.nil ?_
  refine Gs.then_n ?_
  refine Gs.ret ?_
  refine Gs.lgClose (made := made + 1) (ps := ps) (a := a) (c := c) (P := P) (by repeat constructor) rfl hP ?_
  exact Gs.fin1 Tryz.results34 rfl _ (⟨rfl, rfl⟩) (by repeat constructor)
abbrev newP (nm : ByteArray) (z : Nat) (n : Int) (b : Nat) : PaV := ⟨⟨nm, z, zeros n⟩, some ⟨b, 0, none⟩, n.toNat⟩
theorem begin_spec {b d : Nat} {n : Int} {made : Nat} {ps : List Pa} {nm : ByteArray} {z : Nat} (h1 : 1 ≤ n) (h8 : n ≤ 8) (hl : ps.length ≤ 1000) :
    Ct Tryz.prog 36 [ptr b, .string nm, int (z : Nat)] [lgr b d n ⟨made, ps⟩] (fun v hs => v = .tuple #[] ∧ hs = [lgr b d n ⟨made, ps ++ [⟨nm, z, zeros n⟩]⟩]) := by
  refine Ct.intro Tryz.func36 rfl (by kernel_rfl) 23 Tryz.ntmps36 (Nat.le_of_ble_eq_true rfl) fun w0 R => ?_
  refine Gs.lgOpen (by repeat constructor) fun a c P hP => ?_
  have hPl : P.length = ps.length := by rw [← hP, List.length_map]
  have hzl : (List.replicate n.toNat (0 : Int)).length = n.toNat := by simp
  refine Gs.regD mixed (by kernel_rfl) ?_
  refine Rg.pu 0 rfl rfl (by kernel_rfl) trivial (pu_move rfl) ?_
  refine Rg.pu 1 rfl rfl (by kernel_rfl) trivial (pu_move rfl) ?_
  refine Rg.pu 2 rfl rfl (by kernel_rfl) trivial (by first | exact pu_nil rfl | exact pu_nilF rfl) ?_
  refine Rg.pu 3 rfl rfl (by kernel_rfl) trivial (pu_fa fa_65_3 rfl) ?_
  refine Rg.rd 4 rfl rfl (by kernel_rfl) trivial (rd_ld na_63 rfl (Rdc.cl1 (by repeat constructor) rfl)) ?_
  refine Rg.pu 5 rfl rfl (by kernel_rfl) trivial (pu_move rfl) ?_
  refine Rg.pu 6 rfl rfl (by kernel_rfl) trivial (pu_move rfl) ?_
  refine Rg.pu 7 rfl rfl (by kernel_rfl) trivial (pu_move rfl) ?_
  refine Rg.pu 8 rfl rfl (by kernel_rfl) trivial (by first | exact pu_nil rfl | exact pu_nilF rfl) ?_
  refine Rg.pu 9 rfl rfl (by kernel_rfl) trivial (pu_fa fa_65_1 rfl) ?_
  refine Rg.rd 10 rfl rfl (by kernel_rfl) trivial (rd_ld na_3 rfl (Rdc.cl1 (by repeat constructor) rfl)) ?_
  refine Rg.one (by kernel_rfl) (Stp.acK 11 rfl rfl (by kernel_rfl) trivial (ac_make intC 0 et_23 ek_3 zv_3 rfl rfl rfl (by omega) (by omega) (by omega) (by omega)) (by rintro _ _ ⟨mb, rfl, rfl⟩ w s; first | exact s.drop | exact s | exact Ent.sat (by repeat constructor) s) ?_)
  rintro _ _ ⟨mb, rfl, rfl⟩
  refine Rg.pu 12 rfl rfl (by kernel_rfl) trivial (pu_build bd_83 (by repeat constructor) rfl) ?_
  refine Rg.one (by kernel_rfl) (Stp.acK 13 rfl rfl (by kernel_rfl) trivial (ac_lit encC_83 ([(newP nm z n mb)]) et_63 ek_83 rfl (by repeat constructor) rfl rfl (by decide)) (by rintro _ _ ⟨a19, rfl, rfl⟩ w s; first | exact s.drop | exact s | exact Ent.sat (by repeat constructor) s) ?_)
  rintro _ _ ⟨a19, rfl, rfl⟩
  refine Rg.one (by kernel_rfl) (Stp.ac 14 rfl rfl (by kernel_rfl) trivial (ac_append (xs := P) (ys := [(newP nm z n mb)]) et_63 ek_83 rfl rfl (by repeat constructor) (SrcH.sl Tryz.underlying63 ek_83 (SlH.own (by repeat constructor))) (by first | omega | (simp; omega)) (by first | omega | (simp; omega)))  ?_)
  rintro _ _ ⟨a20, c20, rfl, rfl⟩
  refine Rg.pu 15 rfl rfl (by kernel_rfl) trivial (by first | exact pu_nil rfl | exact pu_nilF rfl) ?_
  refine Rg.pu 16 rfl rfl (by kernel_rfl) trivial (pu_fa fa_65_3 rfl) ?_
  refine Rg.one (by kernel_rfl) (Stp.ac0 17 rfl rfl (by kernel_rfl) trivial (ac_st sz_63 rfl rfl (by repeat constructor) rfl rfl rfl rfl)  ?_)
  rintro _ _ rfl
  refine Rg.end (by kernel_rfl) ?_
  refine Gs.fin_n ?_
  refine Gs.takes (As := [topO (newP nm z n mb), big (P.map topO)]) (by repeat constructor) (Gs.bigBack take_snoc ?_)
  rw [show P.map topO ++ [topO (newP nm z n mb)] = (P ++ [(newP nm z n mb)]).map topO by simp]
  refine Gs.lgClose (made := made) (ps := ps ++ [⟨nm, z, zeros n⟩]) (a := a20) (c := c20) (P := P ++ [(newP nm z n mb)]) (by repeat constructor) rfl (by rw [List.map_append, hP]; rfl) ?_
  exact Gs.fin0 Tryz.results36 _ (⟨rfl, rfl⟩) (by repeat constructor)
end Go.Proofs.YtjaafkakeccniaaGreatDoor
