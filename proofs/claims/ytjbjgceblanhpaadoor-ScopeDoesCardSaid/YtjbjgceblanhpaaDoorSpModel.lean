/-
  Scopes: what a name means where, in plain Lean.
-/
import Derived.Test.YtjbjgceblanhpaaDoorDtRClone
import Derived.Test.YtjbjgceblanhpaaDoorSpShelf
namespace Go.Proofs.YtjbjgceblanhpaaDoor
open Go.RowKit
namespace Sp
open Dt
/-! the numeral of a number is its own -/
def valL (l : List UInt8) : Nat := l.foldl (fun a c => a * 10 + (c.toNat - 48)) 0
theorem valL_snoc (l : List UInt8) (c : UInt8) : valL (l ++ [c]) = valL l * 10 + (c.toNat - 48) := by unfold valL; rw [List.foldl_append]; rfl
theorem dig_toNat {u : Nat} (h : u < 10) : (UInt8.ofNat (48 + u)).toNat = 48 + u := by
  rw [UInt8.toNat_ofNat']; omega
theorem val_dec (u : Nat) : valL (Lib.decDigits u) = u := by
  induction u using Nat.strongRecOn with
  | _ u ih =>
    rw [Lib.decDigits]
    split
    · rename_i h
      have := valL_snoc [] (UInt8.ofNat (48 + u))
      rw [List.nil_append] at this
      rw [this, dig_toNat h]
      show 0 * 10 + (48 + u - 48) = u
      omega
    · rename_i h
      rw [valL_snoc, ih (u / 10) (by omega), dig_toNat (Nat.mod_lt _ (by omega))]
      omega
theorem dec_mem (u : Nat) : ∀ c ∈ Lib.decDigits u, 48 ≤ c.toNat ∧ c.toNat ≤ 57 := by
  induction u using Nat.strongRecOn with
  | _ u ih =>
    rw [Lib.decDigits]
    split
    · rename_i h
      intro c hc
      rw [List.mem_singleton.1 hc, dig_toNat h]
      omega
    · rename_i h
      intro c hc
      rcases List.mem_append.1 hc with hc | hc
      · exact ih (u / 10) (by omega) c hc
      · rw [List.mem_singleton.1 hc, dig_toNat (Nat.mod_lt _ (by omega))]
        have := Nat.mod_lt u (show 0 < 10 by omega)
        omega
theorem itoa_inj {a b : Int} (h : Lib.itoa a = Lib.itoa b) : a = b := by
  unfold Lib.itoa at h
  by_cases ha : a < 0
  · rw [if_pos ha] at h
    by_cases hb : b < 0
    · rw [if_pos hb] at h
      have h2 := congrArg valL (List.cons.inj h).2
      rw [val_dec, val_dec] at h2
      omega
    · rw [if_neg hb] at h
      have := dec_mem b.toNat 45 (by rw [← h]; exact List.mem_cons_self ..)
      exact absurd this.1 (by decide)
  · rw [if_neg ha] at h
    by_cases hb : b < 0
    · rw [if_pos hb] at h
      have := dec_mem a.toNat 45 (by rw [h]; exact List.mem_cons_self ..)
      exact absurd this.1 (by decide)
    · rw [if_neg hb] at h
      have h2 := congrArg valL h
      rw [val_dec, val_dec] at h2
      omega
theorem itoa_no32 (a : Int) : (32 : UInt8) ∉ Lib.itoa a := by
  unfold Lib.itoa
  intro h
  split at h
  · rcases List.mem_cons.1 h with h | h
    · exact absurd h (by decide)
    · exact absurd (dec_mem _ _ h).1 (by decide)
  · exact absurd (dec_mem _ _ h).1 (by decide)
/-- a name's marks, as a key -/
def keyL (m : List Int) : List UInt8 := m.flatMap fun x => Lib.itoa x ++ [32]
theorem keyL_cons (x : Int) (m : List Int) : keyL (x :: m) = Lib.itoa x ++ 32 :: keyL m := by unfold keyL; simp
theorem keyL_snoc (m : List Int) (x : Int) : keyL (m ++ [x]) = keyL m ++ Lib.itoa x ++ [32] := by unfold keyL; simp
theorem split32 : ∀ {a b u v : List UInt8}, (32 : UInt8) ∉ a → (32 : UInt8) ∉ b → a ++ 32 :: u = b ++ 32 :: v → a = b ∧ u = v
  | [], [], _, _, _, _, h => ⟨rfl, by simpa using h⟩
  | [], y :: b, _, _, _, hb, h => by
    have := (List.cons.inj h).1
    exact absurd (by rw [this]; exact List.mem_cons_self ..) hb
  | x :: a, [], _, _, ha, _, h => by
    have := (List.cons.inj h).1
    exact absurd (by rw [← this]; exact List.mem_cons_self ..) ha
  | x :: a, y :: b, _, _, ha, hb, h => by
    obtain ⟨h1, h2⟩ := List.cons.inj h
    obtain ⟨h3, h4⟩ := split32 (fun h => ha (List.mem_cons_of_mem _ h)) (fun h => hb (List.mem_cons_of_mem _ h)) h2
    exact ⟨by rw [h1, h3], h4⟩
theorem keyL_inj : ∀ {m m' : List Int}, keyL m = keyL m' → m = m'
  | [], [], _ => rfl
  | [], y :: r, h => by rw [keyL_cons] at h; have := congrArg List.length h; simp [keyL] at this
  | x :: r, [], h => by rw [keyL_cons] at h; have := congrArg List.length h; simp [keyL] at this
  | x :: r, y :: r', h => by
    rw [keyL_cons, keyL_cons] at h
    obtain ⟨h1, h2⟩ := split32 (itoa_no32 x) (itoa_no32 y) h
    rw [itoa_inj h1, keyL_inj h2]
def keyS (m : List Int) : ByteArray := ⟨(keyL m).toArray⟩
theorem keyS_inj {m m' : List Int} (h : keyS m = keyS m') : m = m' := by
  have h2 := congrArg (fun b : ByteArray => b.data.toList) h
  simp only [keyS] at h2
  exact keyL_inj h2
theorem keyL_len (m : List Int) (hm : ∀ x ∈ m, -9223372036854775808 ≤ x ∧ x ≤ 9223372036854775807) : (keyL m).length ≤ m.length * 22 := by
  induction m with
  | nil => simp [keyL]
  | cons x r ih =>
    have h1 := hm x (List.mem_cons_self ..)
    have h2 := Lib.itoa_length_le x h1.1 h1.2
    have h3 := ih (fun y hy => hm y (List.mem_cons_of_mem _ hy))
    rw [keyL_cons, List.length_append, List.length_cons, List.length_cons]
    omega
/-- may a datum be a name? -/
def isSym (d : D) : Bool := decide (d.k = 5) && decide (check d = 0)
theorem sym_parts {d : D} (h : isSym d = true) : d.k = 5 ∧ d.n = 0 ∧ d.l = [] ∧ d.t = [] ∧ d.m.length ≤ 16 ∧ (∀ x ∈ d.m, 1 ≤ x ∧ x ≤ 1048576) ∧ Lx.symbol d.s.data.toList = true ∧ check d = 0 := by
  unfold isSym at h
  simp only [Bool.and_eq_true, decide_eq_true_eq] at h
  obtain ⟨hk, hc⟩ := h
  have hs : single d = true := by
    apply Classical.byContradiction
    intro hn
    have hn' : single d = false := by simpa using hn
    have := chk_bad (d := d) (deep := 1) (p := 0) (by omega) (by omega) hn'
    unfold check at hc
    rw [this] at hc
    exact absurd hc (by decide)
  cases d with
  | mk k n s m l t =>
    have hk' : k = 5 := hk
    subst hk'
    simp [single] at hs
    obtain ⟨⟨⟨⟨⟨h1, h2⟩, h3⟩, h4⟩, h5⟩, h6⟩ := hs
    refine ⟨rfl, h4, h5, h6, h2, fun x hx => ?_, h1, hc⟩
    have := h3 x hx
    unfold mayMark at this
    simpa using this
theorem sym_ext {a b : D} (ha : isSym a = true) (hb : isSym b = true) (hs : a.s = b.s) (hm : a.m = b.m) : a = b := by
  obtain ⟨a1, a2, a3, a4, _⟩ := sym_parts ha
  obtain ⟨b1, b2, b3, b4, _⟩ := sym_parts hb
  cases a; cases b
  simp only [D.k, D.n, D.s, D.m, D.l, D.t] at *
  subst a1 a2 a3 a4 b1 b2 b3 b4 hs hm
  rfl
theorem sym_mk {s : ByteArray} {m : List Int} (h1 : Lx.symbol s.data.toList = true) (h2 : m.length ≤ 16) (h3 : ∀ x ∈ m, 1 ≤ x ∧ x ≤ 1048576) : isSym (.mk 5 0 s m [] []) = true := by
  have hs : single (.mk 5 0 s m [] []) = true := by
    simp [single, h1, h2]
    intro x hx
    unfold mayMark
    simpa using h3 x hx
  unfold isSym check
  rw [chk_good (by omega) (by omega) hs]
  simp [D.k, D.l, D.t, chks]
/-- a scope: what it stands within, what it binds, what that says -/
structure Bd where
  inn : Nat
  id : D
  what : Int
/-- the outermost one -/
def bd0 : Bd := ⟨0, .mk 0 0 ⟨#[]⟩ [] [] [], 0⟩
/-- a table: scopes, and of each mark its scope -/
structure Tbl where
  l : List Bd
  m : List Nat
/-- what a table keeps -/
structure Tbl.Ok (t : Tbl) : Prop where
  z : t.l[0]? = some bd0
  inn : ∀ i b, t.l[i]? = some b → 0 < i → b.inn < i ∧ isSym b.id = true
  ms : ∀ s ∈ t.m, s < t.l.length
  small : t.l.length ≤ 16384 ∧ t.m.length ≤ 16384
def Tbl.new : Tbl := ⟨[bd0], []⟩
/-- a scope and those that it stands within, but for the outermost -/
def up (l : List Bd) : Nat → Nat → List Nat
  | 0, _ => []
  | n + 1, s => if s = 0 then [] else s :: (match l[s]? with
    | some b => up l n b.inn
    | none => [])
def ups (l : List Bd) (s : Nat) : List Nat := up l s s
/-- does a scope bind just that name? -/
def binds (l : List Bd) (s : ByteArray) (m : List Int) (i : Nat) : Bool := match l[i]? with
  | some b => decide (b.id.s = s) && decide (b.id.m = m)
  | none => false
def hit (l : List Bd) (sc : Nat) (s : ByteArray) (m : List Int) : Option Nat := (ups l sc).find? (binds l s m)
/-- what is seen: a scope, what it says; or a name -/
structure Seen where
  scope : Nat
  what : Int
  name : ByteArray
def whatOf (l : List Bd) (i : Nat) : Int := match l[i]? with
  | some b => b.what
  | none => 0
/-- of the first k marks: what the name means -/
def look (t : Tbl) (s : ByteArray) (m : List Int) : Nat → Nat → Seen
  | 0, sc => match hit t.l sc s [] with
    | some i => ⟨i, whatOf t.l i, ⟨#[]⟩⟩
    | none => ⟨0, 0, s⟩
  | k + 1, sc => match hit t.l sc s (m.take (k + 1)) with
    | some i => ⟨i, whatOf t.l i, ⟨#[]⟩⟩
    | none => look t s m k (t.m.getD ((m.getD k 0).toNat - 1) 0)
/-- Find -/
def find (t : Tbl) (sc : Int) (d : D) : Seen × Int :=
  if sc < 0 ∨ (t.l.length : Int) ≤ sc then (⟨0, 0, ⟨#[]⟩⟩, 50)
  else if isSym d = false then (⟨0, 0, ⟨#[]⟩⟩, 5)
  else if d.m.all (fun x => decide (x ≤ t.m.length)) = false then (⟨0, 0, ⟨#[]⟩⟩, 50)
  else (look t d.s d.m d.m.length sc.toNat, 0)
/-- Extend -/
def extend (t : Tbl) (sc : Int) (d : D) (n : Int) : Tbl × Int × Int :=
  if sc < 0 ∨ (t.l.length : Int) ≤ sc then (t, 0, 50)
  else if isSym d = false then (t, 0, 5)
  else if 16384 ≤ t.l.length then (t, 0, 7)
  else (⟨t.l ++ [⟨sc.toNat, d, n⟩], t.m⟩, t.l.length, 0)
/-- Mark -/
def mark (t : Tbl) (sc : Int) : Tbl × Int × Int :=
  if sc < 0 ∨ (t.l.length : Int) ≤ sc then (t, 0, 50)
  else if 16384 ≤ t.m.length then (t, 0, 7)
  else (⟨t.l, t.m ++ [sc.toNat]⟩, t.m.length + 1, 0)
theorem Tbl.Ok.pos {t : Tbl} (h : t.Ok) : 0 < t.l.length := by
  have := h.z
  cases hl : t.l with
  | nil => rw [hl] at this; cases this
  | cons a r => simp
theorem Tbl.Ok.new : Tbl.new.Ok := by
  refine ⟨rfl, fun i b h hi => ?_, fun s h => (by cases h), by decide⟩
  have h2 := (List.getElem?_eq_some_iff.1 h).1
  simp [Tbl.new] at h2
  omega
theorem Tbl.Ok.extend {t : Tbl} (h : t.Ok) (sc : Int) (d : D) (n : Int) : (extend t sc d n).1.Ok := by
  unfold Sp.extend
  split
  · exact h
  split
  · exact h
  split
  · exact h
  rename_i h1 h2 h3
  refine ⟨?_, fun i b hb hi => ?_, fun s hs => ?_, ?_⟩
  · show (t.l ++ _)[0]? = _
    rw [List.getElem?_append_left h.pos]; exact h.z
  · by_cases hlt : i < t.l.length
    · have hb' : (t.l ++ [⟨sc.toNat, d, n⟩])[i]? = some b := hb
      rw [List.getElem?_append_left hlt] at hb'
      exact h.inn i b hb' hi
    · have hb' : (t.l ++ [⟨sc.toNat, d, n⟩])[i]? = some b := hb
      have hi2 : i = t.l.length := by
        have := (List.getElem?_eq_some_iff.1 hb').1
        rw [List.length_append] at this
        simp at this
        omega
      subst hi2
      rw [List.getElem?_append_right (Nat.le_refl _), Nat.sub_self] at hb'
      cases hb'
      exact ⟨by show sc.toNat < _; omega, by simpa using h2⟩
  · have := h.ms s hs
    show s < (t.l ++ _).length
    rw [List.length_append]; omega
  · have := h.small
    show (t.l ++ _).length ≤ 16384 ∧ _
    rw [List.length_append]
    exact ⟨by simp; omega, this.2⟩
theorem Tbl.Ok.mark {t : Tbl} (h : t.Ok) (sc : Int) : (mark t sc).1.Ok := by
  unfold Sp.mark
  split
  · exact h
  split
  · exact h
  rename_i h1 h2
  refine ⟨h.z, h.inn, fun s hs => ?_, ?_⟩
  · rcases List.mem_append.1 hs with hs | hs
    · exact h.ms s hs
    · rw [List.mem_singleton.1 hs]; show sc.toNat < t.l.length; omega
  · have := h.small
    show _ ∧ (t.m ++ _).length ≤ 16384
    rw [List.length_append]
    exact ⟨this.1, by show t.m.length + 1 ≤ 16384; omega⟩
end Sp
end Go.Proofs.YtjbjgceblanhpaaDoor
