/- Texts that stand in one. -/
import Derived.Test.YtjaafkakeccniaaGreatDoorKey
import Derived.Test.YtjaafkakeccniaaGreatDoorMK
import Derived.Test.YtjaafkakeccniaaGreatDoorOpn
/- Walks: digest, and its second copy. -/
namespace Go.Proofs.YtjaafkakeccniaaGreatDoor
open Go Go.Sl Go.Gv
set_option maxRecDepth 100000
abbrev u64C (x : Int) : List Value := [.int .u64 x]
abbrev encC_146 : Int → List Value := u64C
abbrev encC_75 : SlV UInt8 → List Value := slC
theorem ek_146 : EncOk 1 u64C := ⟨fun _ => rfl, fun x v hv => by
  simp only [u64C, List.mem_cons, List.not_mem_nil, or_false] at hv
  rcases hv with rfl; rfl⟩
theorem ek_75 : EncOk 1 (slC : SlV UInt8 → List Value) := ⟨fun _ => rfl, fun x v hv => by
  simp only [slC, List.mem_cons, List.not_mem_nil, or_false] at hv
  rcases hv with rfl; rfl⟩
def hs (h : Int) (c : UInt8) : Int := IntKind.u64.wrap (xorK .u64 h (IntKind.u64.wrap c.toNat) * 1099511628211)
def fnv (h : Int) (bs : List UInt8) : Int := bs.foldl hs h
def hashB (bs : List UInt8) : Int := fnv 14695981039346656037 bs
theorem fnv_snoc (h : Int) (bs : List UInt8) (c : UInt8) : fnv h (bs ++ [c]) = hs (fnv h bs) c := by simp [fnv]
theorem fnv_app (h : Int) (bs cs : List UInt8) : fnv h (bs ++ cs) = fnv (fnv h bs) cs := by simp [fnv]
theorem fnv_take {h : Int} {bs : List UInt8} {i : Nat} {c : UInt8} (hc : bs[i]? = some c) : fnv h (bs.take (i + 1)) = hs (fnv h (bs.take i)) c := by
  rw [List.take_add_one, hc]; exact fnv_snoc ..
/-- Parts, one behind the other. -/
def flat (ps : List (SlV UInt8)) : List UInt8 := ps.flatMap SlV.xs
theorem flat_take {ps : List (SlV UInt8)} {i : Nat} {x : SlV UInt8} (h : ps[i]? = some x) : flat (ps.take (i + 1)) = flat (ps.take i) ++ x.xs := by
  unfold flat; rw [List.take_add_one, h]; simp
theorem of_spec {U S : HProp} {a : Option Addr} {c : Nat} {ps : List (SlV UInt8)} (hU : Srd U 1 slC a ps) (hS : ∀ p ∈ ps, Srd S 1 byteC p.a p.xs ∧ p.xs.length ≤ 1048576) (hl : ps.length ≤ 1048576) :
    Ct Tryz.prog 105 [.slice a ps.length c] [U, S] (fun v hs => v = .int .u64 (hashB (flat ps)) ∧ hs = [U, S]) := by
  refine Ct.intro Tryz.func105 rfl (by kernel_rfl) 28 Tryz.ntmps105 (Nat.le_of_ble_eq_true rfl) fun w0 R => ?_
  refine Gs.slAddr (hU.h (by repeat constructor)) fun ab ao ha => ?_
  refine Gs.seq ?_
  refine Gs.reg ?_
  refine Go.Sl.L.pu rfl rfl trivial (pu_assign rfl) ?_
  refine Go.Sl.L.nil ?_
  refine Gs.then_n ?_
  refine Gs.seq ?_
  refine Gs.reg ?_
  refine Go.Sl.L.pu rfl rfl trivial (pu_assign rfl) ?_
  refine Go.Sl.L.nil ?_
  refine Gs.then_n ?_
  refine Gs.seq ?_
  refine Gs.seq ?_
  refine Gs.reg ?_
  refine Go.Sl.L.pu rfl rfl trivial (pu_move rfl) ?_
  refine Go.Sl.L.pu rfl rfl trivial (pu_len Tryz.underlying115 rfl) ?_
  refine Go.Sl.L.pu rfl rfl trivial (pu_move rfl) ?_
  refine Go.Sl.L.nil ?_
  refine Gs.then_n ?_
  refine Gs.block ?_
  refine Gs.loop1 (fun i : Nat => i ≤ ps.length) (fun i => [(3, .int .u64 (hashB (flat (ps.take i)))), (8, .slice a ps.length c), (9, int ps.length), (10, int i)]) (fun i => [U, S] ++ R) (fun i => ps.length - i) 0 (Nat.zero_le _) (by repeat constructor) (by repeat constructor) (fun i hi => ?_)
  refine Gs.seq ?_
  refine Gs.reg ?_
  refine Go.Sl.L.pu rfl rfl trivial (pu_lt rfl rfl) ?_
  refine Go.Sl.L.nil ?_
  refine Gs.then_n ?_
  refine Gs.seq ?_
  refine Gs.cond rfl (fun hc0 => ?_) (fun hc0 => ?_)
  · skip
    have hlt : i < ps.length := by have := of_decide_eq_true hc0; omega
    obtain ⟨x, hx⟩ : ∃ x, ps[i]? = some x := ⟨ps[i], by simp [hlt]⟩
    obtain rfl := ha (by rintro rfl; simp at hlt)
    obtain ⟨g1, g2⟩ := hS x (List.mem_of_getElem? hx)
    refine Gs.slAddr (g1.h (by repeat constructor)) fun xb xo hxa => ?_
    refine Gs.skip ?_
    refine Gs.then_n ?_
    refine Gs.seq ?_
    refine Gs.block ?_
    refine Gs.seq ?_
    refine Gs.reg ?_
    refine Go.Sl.L.pu rfl rfl trivial (pu_ia se_115 rfl rfl (by omega) (by omega)) ?_
    refine Go.Sl.L.rd rfl rfl trivial (rd_ld na_75 rfl (Rdc.el0 (hU.h (by repeat constructor)) hx rfl rfl)) ?_
    refine Go.Sl.L.pu rfl rfl trivial (pu_assign rfl) ?_
    refine Go.Sl.L.nil ?_
    refine Gs.then_n ?_
    refine Gs.seq ?_
    refine Gs.reg ?_
    refine Go.Sl.L.pu rfl rfl trivial (pu_move rfl) ?_
    refine Go.Sl.L.pu rfl rfl trivial (pu_len Tryz.underlying75 rfl) ?_
    refine Go.Sl.L.pu rfl rfl trivial (pu_move rfl) ?_
    refine Go.Sl.L.nil ?_
    refine Gs.then_n ?_
    refine Gs.block ?_
    refine Gs.loop1 (fun j : Nat => j ≤ x.xs.length) (fun j => [(3, .int .u64 (fnv (hashB (flat (ps.take i))) (x.xs.take j))), (8, .slice (some ⟨ab, ao, none⟩) ps.length c), (9, int ps.length), (10, int i), (14, .slice x.a x.xs.length x.c), (15, int x.xs.length), (16, int j)]) (fun j => [U, S] ++ R) (fun j => x.xs.length - j) 0 (Nat.zero_le _) (by repeat constructor) (by repeat constructor) (fun j hj => ?_)
    refine Gs.seq ?_
    refine Gs.reg ?_
    refine Go.Sl.L.pu rfl rfl trivial (pu_lt rfl rfl) ?_
    refine Go.Sl.L.nil ?_
    refine Gs.then_n ?_
    refine Gs.seq ?_
    refine Gs.cond rfl (fun hc1 => ?_) (fun hc1 => ?_)
    · skip
      have hlt1 : j < x.xs.length := by have := of_decide_eq_true hc1; omega
      obtain ⟨y, hy⟩ : ∃ y, x.xs[j]? = some y := ⟨x.xs[j], by simp [hlt1]⟩
      obtain ⟨xa, xl, xc⟩ := x
      obtain rfl := hxa (by rintro rfl; simp at hlt1)
      dsimp only at hx hlt1 hy hj g1 g2 hc1 ⊢
      refine Gs.skip ?_
      refine Gs.then_n ?_
      refine Gs.seq ?_
      refine Gs.block ?_
      refine Gs.seq ?_
      refine Gs.reg ?_
      refine Go.Sl.L.pu rfl rfl trivial (pu_ia se_75 rfl rfl (by omega) (by omega)) ?_
      refine Go.Sl.L.rd rfl rfl trivial (rd_ld na_5 rfl (Rdc.el0 (g1.h (by repeat constructor)) hy rfl rfl)) ?_
      refine Go.Sl.L.pu rfl rfl trivial (pu_assign rfl) ?_
      refine Go.Sl.L.nil ?_
      refine Gs.then_n ?_
      refine Gs.reg ?_
      refine Go.Sl.L.pu rfl rfl trivial (pu_move rfl) ?_
      refine Go.Sl.L.pu rfl rfl trivial (pu_move rfl) ?_
      refine Go.Sl.L.pu rfl rfl trivial (pu_conv Tryz.underlying5 Tryz.underlying146 rfl) ?_
      refine Go.Sl.L.pu rfl rfl trivial (pu_xor rfl rfl) ?_
      refine Go.Sl.L.pu rfl rfl trivial (by first | exact pu_mulI rfl rfl rfl (by omega) (by omega) | exact pu_mul rfl rfl) ?_
      refine Go.Sl.L.pu rfl rfl trivial (pu_assign rfl) ?_
      refine Go.Sl.L.nil ?_
      rw [show IntKind.u64.wrap (xorK .u64 (fnv (hashB (flat (ps.take i))) (xl.take j)) (IntKind.u64.wrap y.toNat) * 1099511628211) = fnv (hashB (flat (ps.take i))) (xl.take (j + 1)) from (fnv_take hy).symm]
      refine Gs.blk_n ?_
      refine Gs.then_n ?_
      refine Gs.reg ?_
      refine Go.Sl.L.pu rfl rfl trivial (by first | exact pu_addI rfl rfl rfl (by omega) (by omega) | exact pu_add rfl rfl) ?_
      refine Go.Sl.L.pu rfl rfl trivial (pu_move rfl) ?_
      refine Go.Sl.L.nil ?_
      refine Gs.then_n ?_
      exact Gs.again1 (j + 1) (by show j + 1 ≤ xl.length; omega) (by show xl.length - (j + 1) < xl.length - j; omega) (by repeat constructor) (by repeat constructor)
    · skip
      have hge1 : j = x.xs.length := by have := of_decide_eq_false hc1; omega
      rw [hge1, List.take_length, show fnv (hashB (flat (ps.take i))) x.xs = hashB (flat (ps.take (i + 1))) by rw [flat_take hx]; exact (fnv_app ..).symm]
      refine Gs.exit ?_
      refine Gs.then_x ?_
      refine Gs.then_x ?_
      refine Gs.blk_hit ?_
      refine Gs.blk_n ?_
      refine Gs.then_n ?_
      refine Gs.reg ?_
      refine Go.Sl.L.pu rfl rfl trivial (by first | exact pu_addI rfl rfl rfl (by omega) (by omega) | exact pu_add rfl rfl) ?_
      refine Go.Sl.L.pu rfl rfl trivial (pu_move rfl) ?_
      refine Go.Sl.L.nil ?_
      refine Gs.then_n ?_
      exact Gs.again1 (i + 1) (by omega) (by omega) (by repeat constructor) (by repeat constructor)
  · skip
    have hge : i = ps.length := by have := of_decide_eq_false hc0; omega
    rw [hge, List.take_length]
    refine Gs.exit ?_
    refine Gs.then_x ?_
    refine Gs.then_x ?_
    refine Gs.blk_hit ?_
    refine Gs.then_n ?_
    refine Gs.seq ?_
    refine Gs.reg ?_
    refine Go.Sl.L.pu rfl rfl trivial (pu_move rfl) ?_
    refine Go.Sl.L.pu rfl rfl trivial (pu_assign rfl) ?_
    refine Go.Sl.L.nil ?_
    refine Gs.then_n ?_
    refine Gs.ret ?_
    exact Gs.fin1 Tryz.results105 rfl _ (⟨rfl, rfl⟩) (by repeat constructor)
/-! ### Sums of sums -/
def byteU (x : Int) (s : Nat) : UInt8 := cutB (shrK .u64 x s)
/-- The first j of the eight bytes of a sum. -/
def bytes8 (x : Int) (j : Nat) : List UInt8 := (List.range j).map fun k => byteU x (56 - 8 * k)
theorem bytes8_succ (x : Int) (j : Nat) : bytes8 x (j + 1) = bytes8 x j ++ [byteU x (56 - 8 * j)] := by simp [bytes8, List.range_succ]
theorem bytes8_length (x : Int) (j : Nat) : (bytes8 x j).length = j := by simp [bytes8]
def bytesAll (ds : List Int) : List UInt8 := ds.flatMap fun x => bytes8 x 8
theorem bytesAll_take {ds : List Int} {i : Nat} {x : Int} (h : ds[i]? = some x) : bytesAll (ds.take (i + 1)) = bytesAll (ds.take i) ++ bytes8 x 8 := by
  unfold bytesAll; rw [List.take_add_one, h]; simp
theorem bytesAll_length (ds : List Int) : (bytesAll ds).length = 8 * ds.length := by
  induction ds with
  | nil => rfl
  | cons x ds ih => simp only [bytesAll, List.flatMap_cons, List.length_append, bytes8_length, List.length_cons] at ih ⊢; omega
def someB (ds : List Int) : Bool := ds.any fun x => decide (x ≠ 0)
theorem someB_take {ds : List Int} {i : Nat} {x : Int} (h : ds[i]? = some x) : someB (ds.take (i + 1)) = (someB (ds.take i) || decide (x ≠ 0)) := by
  unfold someB; rw [List.take_add_one, h]; simp
def allH (ds : List Int) : Int := if someB ds then hashB (bytesAll ds) else 0
end Go.Proofs.YtjaafkakeccniaaGreatDoor

/- Frames: what one is, in bytes; how one is read; what a beginning of one reads as. Plain. -/
namespace Go.Proofs.YtjaafkakeccniaaGreatDoor
open Go Go.Sl Go.Gv
def hdB (k : Nat) (body : List UInt8) : List UInt8 := [71, UInt8.ofNat k, UInt8.ofNat (body.length / 256), UInt8.ofNat body.length]
/-- A frame of a kind. -/
def frB (k : Nat) (body : List UInt8) : List UInt8 := hdB k body ++ body ++ bytes8 (hashB (hdB k body ++ body)) 8
/-- Where a frame's body ends. -/
def endB (x : List UInt8) : Nat := 4 + ((x.getD 2 0).toNat * 256 + (x.getD 3 0).toNat)
/-- The frame that bytes begin with: its kind, its body, its length. -/
def nextB (x : List UInt8) : Option (Nat × List UInt8 × Nat) :=
  if x.length < 12 then none
  else if x.getD 0 0 ≠ 71 ∨ x.getD 1 0 = 0 ∨ x.length - 8 < endB x then none
  else if (x.drop (endB x)).take 8 = bytes8 (hashB (x.take (endB x))) 8 then some ((x.getD 1 0).toNat, (x.take (endB x)).drop 4, endB x + 8) else none
theorem hdB_len (k : Nat) (body : List UInt8) : (hdB k body).length = 4 := rfl
theorem frB_len (k : Nat) (body : List UInt8) : (frB k body).length = body.length + 12 := by
  unfold frB; rw [List.length_append, List.length_append, bytes8_length, hdB_len]; omega
theorem frB_end (k : Nat) (body rest : List UInt8) (hl : body.length ≤ 65535) : endB (frB k body ++ rest) = body.length + 4 := by
  have e2 : (frB k body ++ rest).getD 2 0 = UInt8.ofNat (body.length / 256) := rfl
  have e3 : (frB k body ++ rest).getD 3 0 = UInt8.ofNat body.length := rfl
  unfold endB
  rw [e2, e3, UInt8.toNat_ofNat', UInt8.toNat_ofNat']
  omega
theorem next_fr (k : Nat) (body rest : List UInt8) (hk : 1 ≤ k) (hk2 : k ≤ 255) (hl : body.length ≤ 65535) : nextB (frB k body ++ rest) = some (k, body, body.length + 12) := by
  have hlen := frB_len k body
  have he := frB_end k body rest hl
  have e0 : (frB k body ++ rest).getD 0 0 = 71 := rfl
  have e1 : (frB k body ++ rest).getD 1 0 = UInt8.ofNat k := rfl
  have hkn : (UInt8.ofNat k).toNat = k := by rw [UInt8.toNat_ofNat']; omega
  have hk0 : UInt8.ofNat k ≠ 0 := fun e => by have := congrArg UInt8.toNat e; rw [hkn] at this; simp at this; omega
  have hhb : (hdB k body ++ body).length = body.length + 4 := by rw [List.length_append, hdB_len]; omega
  have ht : (frB k body ++ rest).take (body.length + 4) = hdB k body ++ body := by
    unfold frB
    rw [List.append_assoc, ← hhb, List.take_left]
  have hd : ((frB k body ++ rest).drop (body.length + 4)).take 8 = bytes8 (hashB (hdB k body ++ body)) 8 := by
    unfold frB
    rw [List.append_assoc, ← hhb, List.drop_left]
    have := List.take_left (l₁ := bytes8 (hashB (hdB k body ++ body)) 8) (l₂ := rest)
    rwa [bytes8_length] at this
  unfold nextB
  rw [if_neg (by rw [List.length_append, hlen]; omega), he, e0, e1, if_neg (by
    rintro (h | h | h)
    · exact h rfl
    · exact hk0 h
    · rw [List.length_append, hlen] at h; omega), ht, hd, if_pos rfl, hkn]
  refine congrArg some (Prod.ext rfl (Prod.ext ?_ rfl))
  show (hdB k body ++ body).drop 4 = body
  rw [← hdB_len k body, List.drop_left]
/-- A beginning of a frame reads as none. -/
theorem next_cut (k : Nat) (body : List UInt8) (m : Nat) (hl : body.length ≤ 65535) (hm : m < (frB k body).length) : nextB ((frB k body).take m) = none := by
  have hlen := frB_len k body
  have htl : ((frB k body).take m).length = m := by rw [List.length_take]; omega
  unfold nextB
  by_cases h12 : m < 12
  · rw [if_pos (by rw [htl]; exact h12)]
  · rw [if_neg (by rw [htl]; exact h12)]
    have hg : ∀ i, i < m → ((frB k body).take m).getD i 0 = (frB k body).getD i 0 := fun i hi => by
      rw [List.getD_eq_getElem?_getD, List.getD_eq_getElem?_getD, List.getElem?_take, if_pos hi]
    have he : endB ((frB k body).take m) = body.length + 4 := by
      have := frB_end k body [] hl
      rw [List.append_nil] at this
      unfold endB at this ⊢
      rw [hg 2 (by omega), hg 3 (by omega)]; exact this
    rw [he, htl, if_pos (.inr (.inr (by omega)))]
theorem next_nil : nextB [] = none := rfl
theorem next_len {x : List UInt8} {k : Nat} {b : List UInt8} {n : Nat} (h : nextB x = some (k, b, n)) : 12 ≤ n ∧ n ≤ x.length ∧ 1 ≤ k ∧ k ≤ 255 ∧ b.length + 12 = n := by
  unfold nextB at h
  split at h
  · cases h
  · rename_i h1
    split at h
    · cases h
    · rename_i h2
      split at h
      · cases h
        have h3 : ¬ x.length - 8 < endB x := fun e => h2 (.inr (.inr e))
        have h4 : x.getD 1 0 ≠ 0 := fun e => h2 (.inr (.inl e))
        have h5 : (x.getD 1 0).toNat ≠ 0 := fun e => h4 (UInt8.toNat_inj.1 e)
        have h6 := (x.getD 1 0).toNat_lt
        have h7 : 4 ≤ endB x := by unfold endB; omega
        refine ⟨by omega, by omega, by omega, by omega, ?_⟩
        rw [List.length_drop, List.length_take]; omega
      · cases h
end Go.Proofs.YtjaafkakeccniaaGreatDoor

