/- The ledger: its files' names, what a write and an opening do. Plain. -/
import Derived.Test.YtjaafkakeccniaaGreatDoorMG
import Derived.Test.YtjaafkakeccniaaGreatDoorMK
namespace Go.Proofs.YtjaafkakeccniaaGreatDoor
open Go Go.Sl Go.Gv Go.Dv Go.Bst
set_option maxRecDepth 100000
def dig (k : Nat) : UInt8 := UInt8.ofNat (48 + k)
def nameL (k : Nat) : List UInt8 := [108, 111, 103, 46, 48, 48, 48, 48, 48, 48, 48, dig (k / 10), dig (k % 10)]
/-- The name of a number's file. -/
def nameK (k : Nat) : ByteArray := ⟨(nameL k).toArray⟩
theorem name_size (k : Nat) : (nameK k).size = 13 := rfl
theorem name_list (k : Nat) : (nameK k).data.toList = nameL k := rfl
theorem name_ok {k : Nat} (h : k < 100) : asciiB (nameK k) = true ∧ namedB (nameK k) = true := by
  have h1 : ∀ k : Fin 100, (asciiB (nameK k.val) && namedB (nameK k.val)) = true := by decide +kernel
  have h2 := h1 ⟨k, h⟩
  rwa [Bool.and_eq_true] at h2
theorem dig_inj {i j : Nat} (hi : i < 100) (hj : j < 100) (h : dig i = dig j) : i = j := by
  have := congrArg UInt8.toNat h
  unfold dig at this
  rw [UInt8.toNat_ofNat', UInt8.toNat_ofNat'] at this
  omega
theorem name_inj {i j : Nat} (hi : i < 100) (hj : j < 100) (h : nameK i = nameK j) : i = j := by
  have e : nameL i = nameL j := congrArg (fun s : ByteArray => s.data.toList) h
  simp only [nameL, List.cons.injEq, and_true, true_and] at e
  have e1 := dig_inj (by omega) (by omega) e.1
  have e2 := dig_inj (by omega) (by omega) e.2
  omega
theorem name_le {i j : Nat} (hij : i ≤ j) (hj : j < 100) : (nameK i).data.toList ≤ (nameK j).data.toList := by
  have h1 : ∀ j : Fin 100, ∀ i : Fin 100, i.val ≤ j.val → nameL i.val ≤ nameL j.val := by decide +kernel
  exact h1 ⟨j, hj⟩ ⟨i, by omega⟩ hij
/-! ### What is noted of a segment -/
structure Pa where
  n : ByteArray
  z : Nat
  t : List Int
structure Lg where
  made : Nat
  ps : List Pa
def noteT (t : List Int) (e : EntP) : List Int := if e.kind = 2 then t.set e.r.o.toNat (max (t.getD e.r.o.toNat 0) e.r.q) else t
def noteP (p : Pa) (e : EntP) (z : Nat) : Pa := ⟨p.n, p.z + z, noteT p.t e⟩
def zeros (n : Int) : List Int := List.replicate n.toNat 0
def topsOf (n : Int) (es : List EntP) : List Int := es.foldl noteT (zeros n)
theorem noteT_len (t : List Int) (e : EntP) : (noteT t e).length = t.length := by unfold noteT; split <;> simp
theorem fold_len : ∀ (es : List EntP) (t : List Int), (es.foldl noteT t).length = t.length
  | [], _ => rfl
  | e :: es, t => by rw [List.foldl_cons, fold_len es, noteT_len]
theorem tops_len (n : Int) (es : List EntP) : (topsOf n es).length = n.toNat := by unfold topsOf; rw [fold_len]; simp [zeros]
theorem tops_snoc (n : Int) (es : List EntP) (e : EntP) : topsOf n (es ++ [e]) = noteT (topsOf n es) e := by simp [topsOf]
def noteAll (p : Pa) (es : List EntP) : Pa := es.foldl (fun p e => noteP p e 0) p
theorem noteAll_eq (n : Int) (nm : ByteArray) (z : Nat) (es : List EntP) : noteAll ⟨nm, z, zeros n⟩ es = ⟨nm, z, topsOf n es⟩ := by
  have : ∀ (es : List EntP) (t : List Int), noteAll ⟨nm, z, t⟩ es = ⟨nm, z, es.foldl noteT t⟩ := fun es => by
    induction es with
    | nil => intro t; rfl
    | cons e es ih => intro t; exact ih (noteT t e)
  exact this es _
theorem noteAll_snoc (p : Pa) (es : List EntP) (e : EntP) : noteAll p (es ++ [e]) = noteP (noteAll p es) e 0 := by simp [noteAll]
/-! ### Writing -/
def baseE (v w : List Int) : EntP := ⟨1, v, w, Rec.zero⟩
def mayW (n : Int) (e : EntP) (v w : List Int) : Bool := !decide (e.kind = 1) && (mayE e n && (vecB v n && (vecB w n && belowB w v)))
structure WOut where
  e : Int
  D : List Fl
  L : Lg
def writeL (most n : Int) (D : List Fl) (made : Nat) (U : List Pa) (p : Pa) (e : EntP) (v w : List Int) : WOut :=
  if mayW n e v w = false then ⟨2, D, ⟨made, U ++ [p]⟩⟩
  else if p.z < 400 then
    if appE most D p.n (layE e) = 0 then ⟨0, appL most D p.n (layE e), ⟨made, U ++ [noteP p e (layE e).length]⟩⟩ else ⟨appE most D p.n (layE e), D, ⟨made, U ++ [p]⟩⟩
  else if appE most (syncL D [p.n]) (nameK (made + 1)) (layE (baseE v w) ++ layE e) = 0 then
    ⟨0, appL most (syncL D [p.n]) (nameK (made + 1)) (layE (baseE v w) ++ layE e), ⟨made + 1, (U ++ [p]) ++ [noteP ⟨nameK (made + 1), (layE (baseE v w)).length, zeros n⟩ e (layE e).length]⟩⟩
  else ⟨appE most (syncL D [p.n]) (nameK (made + 1)) (layE (baseE v w) ++ layE e), syncL D [p.n], ⟨made + 1, U ++ [p]⟩⟩
/-! ### Opening -/
structure ROut where
  es : List EntP
  D : List Fl
  ps : List Pa
def bytesF (D : List Fl) (nm : ByteArray) : List UInt8 := match lookF D nm with
  | some f => f.b
  | none => []
def readF (n : Int) (D : List Fl) (nm : ByteArray) : ROut :=
  let b := bytesF D nm
  let r := readS n b.length true b
  if r.1 = [] then ⟨[], del D nm, []⟩ else ⟨r.1, if r.2 < b.length then cutL D nm r.2 else D, [noteAll ⟨nm, r.2, zeros n⟩ r.1]⟩
structure OOut where
  D : List Fl
  L : Lg
  out : List EntP
def openL (n : Int) : List Nat → OOut → OOut
  | [], o => o
  | k :: ks, o => openL n ks ⟨(readF n o.D (nameK k)).D, ⟨max o.L.made k, o.L.ps ++ (readF n o.D (nameK k)).ps⟩, o.out ++ (readF n o.D (nameK k)).es⟩
theorem openL_snoc (n : Int) : ∀ (ks : List Nat) (k : Nat) (o : OOut), openL n (ks ++ [k]) o = openL n [k] (openL n ks o)
  | [], _, _ => rfl
  | _ :: ks, k, _ => openL_snoc n ks k _
end Go.Proofs.YtjaafkakeccniaaGreatDoor
