/- A machine of plain data that runs the code of closed calls, and its proof against the model: a part. -/
import GoSem.Step
import Derived.Calls
import Derived.Laws.Cells
import Derived.Laws.IdiomCopy
import Derived.Laws.BitsLemmas
import Derived.Lib.Strings
import Derived.Lib.SmallJoins
import Derived.Laws.StructEq
set_option linter.unusedVariables false
set_option linter.unusedSimpArgs false
section
namespace Go.Eng
inductive Tr (α : Type _) where
  | lf
  | nd (v : α) (l r : Tr α)
variable {α : Type _}
def evs : List α → List α
  | [] => []
  | [a] => [a]
  | a :: _ :: l => a :: evs l
def ods : List α → List α
  | [] => []
  | [_] => []
  | _ :: b :: l => b :: ods l
theorem evs_get : ∀ (l : List α) (i : Nat), (evs l)[i]? = l[2 * i]?
  | [], i => by simp [evs]
  | [a], 0 => by simp [evs]
  | [a], i + 1 => by simp [evs]
  | a :: b :: l, 0 => by simp [evs]
  | a :: b :: l, i + 1 => by
    simp only [evs, List.getElem?_cons_succ]
    rw [evs_get l i, show 2 * (i + 1) = 2 * i + 1 + 1 by omega]
    simp
theorem ods_get : ∀ (l : List α) (i : Nat), (ods l)[i]? = l[2 * i + 1]?
  | [], i => by simp [ods]
  | [a], i => by simp [ods]
  | a :: b :: l, 0 => by simp [ods]
  | a :: b :: l, i + 1 => by
    simp only [ods, List.getElem?_cons_succ]
    rw [ods_get l i, show 2 * (i + 1) = 2 * i + 1 + 1 by omega]
    simp
theorem evs_len : ∀ (l : List α), (evs l).length = (l.length + 1) / 2
  | [] => by simp [evs]
  | [a] => by simp [evs]
  | a :: b :: l => by simp only [evs, List.length_cons, evs_len l]; omega
theorem ods_len : ∀ (l : List α), (ods l).length = l.length / 2
  | [] => by simp [ods]
  | [a] => by simp [ods]
  | a :: b :: l => by simp only [ods, List.length_cons, ods_len l]; omega
def Tr.mk : Nat → List α → Tr α
  | 0, _ => .lf
  | _ + 1, [] => .lf
  | n + 1, a :: l => .nd a (mk n (evs l)) (mk n (ods l))
def Tr.get : Tr α → Nat → Option α
  | .lf, _ => none
  | .nd v l r, i => match i with
    | 0 => some v
    | i + 1 => if Nat.beq (i % 2) 0 then l.get (i / 2) else r.get (i / 2)
theorem Tr.get_mk : ∀ (n : Nat) (l : List α) (i : Nat), l.length < 2 ^ n → (Tr.mk n l).get i = l[i]?
  | 0, l, i, h => by
    have : l = [] := List.length_eq_zero_iff.1 (by simpa using h)
    subst this
    simp [Tr.mk, Tr.get]
  | n + 1, [], i, _ => by simp [Tr.mk, Tr.get]
  | n + 1, a :: l, 0, _ => by simp [Tr.mk, Tr.get]
  | n + 1, a :: l, i + 1, h => by
    simp only [List.length_cons, Nat.pow_succ] at h
    simp only [Tr.mk, Tr.get, List.getElem?_cons_succ]
    by_cases hb : Nat.beq (i % 2) 0 = true
    · rw [if_pos hb, Tr.get_mk n (evs l) _ (by rw [evs_len]; omega), evs_get]
      have := Nat.eq_of_beq_eq_true hb
      rw [show 2 * (i / 2) = i by omega]
    · rw [if_neg hb, Tr.get_mk n (ods l) _ (by rw [ods_len]; omega), ods_get]
      have : i % 2 ≠ 0 := fun e => hb (by rw [e]; rfl)
      rw [show 2 * (i / 2) + 1 = i by omega]
end Go.Eng
end
section
namespace Go.Eng
inductive D8 where
  | d0 | d1 | d2 | d3 | d4 | d5 | d6 | d7
  deriving DecidableEq, Inhabited, Repr
structure Id where
  a : D8
  b : D8
  c : D8
  d : D8
  e : D8
  deriving DecidableEq, Inhabited, Repr
def D8.nat : D8 → Nat
  | .d0 => 0 | .d1 => 1 | .d2 => 2 | .d3 => 3 | .d4 => 4 | .d5 => 5 | .d6 => 6 | .d7 => 7
def D8.of : Nat → D8
  | 0 => .d0 | 1 => .d1 | 2 => .d2 | 3 => .d3 | 4 => .d4 | 5 => .d5 | 6 => .d6 | _ => .d7
theorem D8.of_nat : ∀ d : D8, D8.of d.nat = d := by intro d; cases d <;> rfl
theorem D8.nat_of : ∀ n, n < 8 → (D8.of n).nat = n := by
  intro n h
  match n, h with
  | 0, _ | 1, _ | 2, _ | 3, _ | 4, _ | 5, _ | 6, _ | 7, _ => rfl
theorem D8.nat_lt : ∀ d : D8, d.nat < 8 := by intro d; cases d <;> decide
def Id.nat (i : Id) : Nat := i.a.nat + 8 * (i.b.nat + 8 * (i.c.nat + 8 * (i.d.nat + 8 * i.e.nat)))
def Id.of (n : Nat) : Id := ⟨.of (n % 8), .of (n / 8 % 8), .of (n / 64 % 8), .of (n / 512 % 8), .of (n / 4096 % 8)⟩
def Id.max : Nat := 32768
theorem Id.of_nat (i : Id) : Id.of i.nat = i := by
  obtain ⟨a, b, c, d, e⟩ := i
  have h1 := a.nat_lt; have h2 := b.nat_lt; have h3 := c.nat_lt; have h4 := d.nat_lt; have h5 := e.nat_lt
  simp only [Id.of, Id.nat]
  have e1 : (a.nat + 8 * (b.nat + 8 * (c.nat + 8 * (d.nat + 8 * e.nat)))) % 8 = a.nat := by omega
  have e2 : (a.nat + 8 * (b.nat + 8 * (c.nat + 8 * (d.nat + 8 * e.nat)))) / 8 % 8 = b.nat := by omega
  have e3 : (a.nat + 8 * (b.nat + 8 * (c.nat + 8 * (d.nat + 8 * e.nat)))) / 64 % 8 = c.nat := by omega
  have e4 : (a.nat + 8 * (b.nat + 8 * (c.nat + 8 * (d.nat + 8 * e.nat)))) / 512 % 8 = d.nat := by omega
  have e5 : (a.nat + 8 * (b.nat + 8 * (c.nat + 8 * (d.nat + 8 * e.nat)))) / 4096 % 8 = e.nat := by omega
  rw [e1, e2, e3, e4, e5]
  simp [D8.of_nat]
theorem Id.nat_of (n : Nat) (h : n < Id.max) : (Id.of n).nat = n := by
  unfold Id.max at h
  simp only [Id.of, Id.nat]
  rw [D8.nat_of _ (by omega), D8.nat_of _ (by omega), D8.nat_of _ (by omega), D8.nat_of _ (by omega), D8.nat_of _ (by omega)]
  omega
structure V where
  tag : Nat
  a : Nat
  b : Nat
  c : Nat
  d : Nat
  id : Id
  l : List V
  deriving Inhabited
inductive View where
  | unk | int (k a : Nat) | bool (b : Bool) | str (l x : Nat)
  | nilp | ptr (b : Id) (o : Nat) | nils | sl (b : Id) (o len cap es : Nat) (ex : Bool)
  | nilm | mp (b : Id) | fn (f n : Nat) (l : List V) | yld (b : Id) | nilf
  | iface (t : Nat) (v : V) | nili | agg (l : List V) | tup (l : List V) | undef
def V.view (v : V) : View :=
  match v.tag with
  | 1 => .int v.b v.a
  | 2 => .bool (v.a == 1)
  | 3 => .str v.a v.b
  | 4 => .ptr v.id v.a
  | 5 => .nilp
  | 6 => .sl v.id v.a v.b v.c (v.d / 2) (v.d % 2 == 1)
  | 7 => .nils
  | 8 => .mp v.id
  | 9 => .nilm
  | 10 => .fn v.a v.b v.l
  | 11 => .yld v.id
  | 12 => .nilf
  | 13 => match v.l with | [x] => .iface v.a x | _ => .unk
  | 14 => .nili
  | 15 => .agg v.l
  | 16 => .tup v.l
  | 17 => .undef
  | _ => .unk
def z5 : Id := ⟨.d0, .d0, .d0, .d0, .d0⟩
def vUnk : V := ⟨0, 0, 0, 0, 0, z5, []⟩
def vUndef : V := ⟨17, 0, 0, 0, 0, z5, []⟩
def vInt (k a : Nat) : V := ⟨1, a, k, 0, 0, z5, []⟩
def vBool (b : Bool) : V := ⟨2, Bool.toNat b, 0, 0, 0, z5, []⟩
def vStr (l x : Nat) : V := ⟨3, l, x, 0, 0, z5, []⟩
def vPtr (b : Id) (o : Nat) : V := ⟨4, o, 0, 0, 0, b, []⟩
def vNilp : V := ⟨5, 0, 0, 0, 0, z5, []⟩
def vSl (b : Id) (o len cap es : Nat) (ex : Bool) : V := ⟨6, o, len, cap, 2 * es + Bool.toNat ex, b, []⟩
def vNils : V := ⟨7, 0, 0, 0, 0, z5, []⟩
def vMp (b : Id) : V := ⟨8, 0, 0, 0, 0, b, []⟩
def vNilm : V := ⟨9, 0, 0, 0, 0, z5, []⟩
def vFn (f n : Nat) (l : List V) : V := ⟨10, f, n, 0, 0, z5, l⟩
def vYld (b : Id) : V := ⟨11, 0, 0, 0, 0, b, []⟩
def vNilf : V := ⟨12, 0, 0, 0, 0, z5, []⟩
def vIface (t : Nat) (v : V) : V := ⟨13, t, 0, 0, 0, z5, [v]⟩
def vNili : V := ⟨14, 0, 0, 0, 0, z5, []⟩
def vAgg (l : List V) : V := ⟨15, 0, 0, 0, 0, z5, l⟩
def vTup (l : List V) : V := ⟨16, 0, 0, 0, 0, z5, l⟩
@[simp] theorem view_unk : vUnk.view = .unk := rfl
@[simp] theorem view_undef : vUndef.view = .undef := rfl
@[simp] theorem view_int (k a) : (vInt k a).view = .int k a := rfl
@[simp] theorem view_bool (b) : (vBool b).view = .bool b := by cases b <;> rfl
@[simp] theorem view_str (l x) : (vStr l x).view = .str l x := rfl
@[simp] theorem view_ptr (b o) : (vPtr b o).view = .ptr b o := rfl
@[simp] theorem view_nilp : vNilp.view = .nilp := rfl
@[simp] theorem view_sl (b o len cap es ex) : (vSl b o len cap es ex).view = .sl b o len cap es ex := by
  have h1 : (2 * es + ex.toNat) / 2 = es := by cases ex <;> simp <;> omega
  have h2 : ((2 * es + ex.toNat) % 2 == 1) = ex := by cases ex <;> simp <;> omega
  simp only [V.view, vSl, h1, h2]
@[simp] theorem view_nils : vNils.view = .nils := rfl
@[simp] theorem view_mp (b) : (vMp b).view = .mp b := rfl
@[simp] theorem view_nilm : vNilm.view = .nilm := rfl
@[simp] theorem view_fn (f n l) : (vFn f n l).view = .fn f n l := rfl
@[simp] theorem view_yld (b) : (vYld b).view = .yld b := rfl
@[simp] theorem view_nilf : vNilf.view = .nilf := rfl
@[simp] theorem view_iface (t v) : (vIface t v).view = .iface t v := rfl
@[simp] theorem view_nili : vNili.view = .nili := rfl
@[simp] theorem view_agg (l) : (vAgg l).view = .agg l := rfl
@[simp] theorem view_tup (l) : (vTup l).view = .tup l := rfl
structure T1 where
  (f0 f1 f2 f3 f4 f5 f6 : V)
structure T2 where
  (f0 f1 f2 f3 f4 f5 f6 : T1)
structure T where
  (f0 f1 f2 f3 f4 f5 f6 : T2)
def T1.get (t : T1) : Nat → V
  | 0 => t.f0 | 1 => t.f1 | 2 => t.f2 | 3 => t.f3 | 4 => t.f4 | 5 => t.f5 | _ => t.f6
def T2.get (t : T2) : Nat → T1
  | 0 => t.f0 | 1 => t.f1 | 2 => t.f2 | 3 => t.f3 | 4 => t.f4 | 5 => t.f5 | _ => t.f6
def T.get2 (t : T) : Nat → T2
  | 0 => t.f0 | 1 => t.f1 | 2 => t.f2 | 3 => t.f3 | 4 => t.f4 | 5 => t.f5 | _ => t.f6
def T1.set (t : T1) (v : V) (i : Nat) : T1 := match t with
  | ⟨f0, f1, f2, f3, f4, f5, f6⟩ => match i with
    | 0 => ⟨v, f1, f2, f3, f4, f5, f6⟩
    | 1 => ⟨f0, v, f2, f3, f4, f5, f6⟩
    | 2 => ⟨f0, f1, v, f3, f4, f5, f6⟩
    | 3 => ⟨f0, f1, f2, v, f4, f5, f6⟩
    | 4 => ⟨f0, f1, f2, f3, v, f5, f6⟩
    | 5 => ⟨f0, f1, f2, f3, f4, v, f6⟩
    | _ => ⟨f0, f1, f2, f3, f4, f5, v⟩
def T2.set (t : T2) (v : T1) (i : Nat) : T2 := match t with
  | ⟨f0, f1, f2, f3, f4, f5, f6⟩ => match i with
    | 0 => ⟨v, f1, f2, f3, f4, f5, f6⟩
    | 1 => ⟨f0, v, f2, f3, f4, f5, f6⟩
    | 2 => ⟨f0, f1, v, f3, f4, f5, f6⟩
    | 3 => ⟨f0, f1, f2, v, f4, f5, f6⟩
    | 4 => ⟨f0, f1, f2, f3, v, f5, f6⟩
    | 5 => ⟨f0, f1, f2, f3, f4, v, f6⟩
    | _ => ⟨f0, f1, f2, f3, f4, f5, v⟩
def T.set2 (t : T) (v : T2) (i : Nat) : T := match t with
  | ⟨f0, f1, f2, f3, f4, f5, f6⟩ => match i with
    | 0 => ⟨v, f1, f2, f3, f4, f5, f6⟩
    | 1 => ⟨f0, v, f2, f3, f4, f5, f6⟩
    | 2 => ⟨f0, f1, v, f3, f4, f5, f6⟩
    | 3 => ⟨f0, f1, f2, v, f4, f5, f6⟩
    | 4 => ⟨f0, f1, f2, f3, v, f5, f6⟩
    | 5 => ⟨f0, f1, f2, f3, f4, v, f6⟩
    | _ => ⟨f0, f1, f2, f3, f4, f5, v⟩
def T1.e : T1 := ⟨vUnk, vUnk, vUnk, vUnk, vUnk, vUnk, vUnk⟩
def T2.e : T2 := ⟨.e, .e, .e, .e, .e, .e, .e⟩
def T.e : T := ⟨.e, .e, .e, .e, .e, .e, .e⟩
theorem T1.get_set (t : T1) (v : V) : ∀ i j, i < 7 → j < 7 → (t.set v i).get j = if j = i then v else t.get j := by
  intro i j hi hj
  match i, hi, j, hj with
  | 0, _, 0, _ | 0, _, 1, _ | 0, _, 2, _ | 0, _, 3, _ | 0, _, 4, _ | 0, _, 5, _ | 0, _, 6, _
  | 1, _, 0, _ | 1, _, 1, _ | 1, _, 2, _ | 1, _, 3, _ | 1, _, 4, _ | 1, _, 5, _ | 1, _, 6, _
  | 2, _, 0, _ | 2, _, 1, _ | 2, _, 2, _ | 2, _, 3, _ | 2, _, 4, _ | 2, _, 5, _ | 2, _, 6, _
  | 3, _, 0, _ | 3, _, 1, _ | 3, _, 2, _ | 3, _, 3, _ | 3, _, 4, _ | 3, _, 5, _ | 3, _, 6, _
  | 4, _, 0, _ | 4, _, 1, _ | 4, _, 2, _ | 4, _, 3, _ | 4, _, 4, _ | 4, _, 5, _ | 4, _, 6, _
  | 5, _, 0, _ | 5, _, 1, _ | 5, _, 2, _ | 5, _, 3, _ | 5, _, 4, _ | 5, _, 5, _ | 5, _, 6, _
  | 6, _, 0, _ | 6, _, 1, _ | 6, _, 2, _ | 6, _, 3, _ | 6, _, 4, _ | 6, _, 5, _ | 6, _, 6, _ => simp [T1.get, T1.set]
theorem T2.get_set (t : T2) (v : T1) : ∀ i j, i < 7 → j < 7 → (t.set v i).get j = if j = i then v else t.get j := by
  intro i j hi hj
  match i, hi, j, hj with
  | 0, _, 0, _ | 0, _, 1, _ | 0, _, 2, _ | 0, _, 3, _ | 0, _, 4, _ | 0, _, 5, _ | 0, _, 6, _
  | 1, _, 0, _ | 1, _, 1, _ | 1, _, 2, _ | 1, _, 3, _ | 1, _, 4, _ | 1, _, 5, _ | 1, _, 6, _
  | 2, _, 0, _ | 2, _, 1, _ | 2, _, 2, _ | 2, _, 3, _ | 2, _, 4, _ | 2, _, 5, _ | 2, _, 6, _
  | 3, _, 0, _ | 3, _, 1, _ | 3, _, 2, _ | 3, _, 3, _ | 3, _, 4, _ | 3, _, 5, _ | 3, _, 6, _
  | 4, _, 0, _ | 4, _, 1, _ | 4, _, 2, _ | 4, _, 3, _ | 4, _, 4, _ | 4, _, 5, _ | 4, _, 6, _
  | 5, _, 0, _ | 5, _, 1, _ | 5, _, 2, _ | 5, _, 3, _ | 5, _, 4, _ | 5, _, 5, _ | 5, _, 6, _
  | 6, _, 0, _ | 6, _, 1, _ | 6, _, 2, _ | 6, _, 3, _ | 6, _, 4, _ | 6, _, 5, _ | 6, _, 6, _ => simp [T2.get, T2.set]
theorem T.get2_set2 (t : T) (v : T2) : ∀ i j, i < 7 → j < 7 → (t.set2 v i).get2 j = if j = i then v else t.get2 j := by
  intro i j hi hj
  match i, hi, j, hj with
  | 0, _, 0, _ | 0, _, 1, _ | 0, _, 2, _ | 0, _, 3, _ | 0, _, 4, _ | 0, _, 5, _ | 0, _, 6, _
  | 1, _, 0, _ | 1, _, 1, _ | 1, _, 2, _ | 1, _, 3, _ | 1, _, 4, _ | 1, _, 5, _ | 1, _, 6, _
  | 2, _, 0, _ | 2, _, 1, _ | 2, _, 2, _ | 2, _, 3, _ | 2, _, 4, _ | 2, _, 5, _ | 2, _, 6, _
  | 3, _, 0, _ | 3, _, 1, _ | 3, _, 2, _ | 3, _, 3, _ | 3, _, 4, _ | 3, _, 5, _ | 3, _, 6, _
  | 4, _, 0, _ | 4, _, 1, _ | 4, _, 2, _ | 4, _, 3, _ | 4, _, 4, _ | 4, _, 5, _ | 4, _, 6, _
  | 5, _, 0, _ | 5, _, 1, _ | 5, _, 2, _ | 5, _, 3, _ | 5, _, 4, _ | 5, _, 5, _ | 5, _, 6, _
  | 6, _, 0, _ | 6, _, 1, _ | 6, _, 2, _ | 6, _, 3, _ | 6, _, 4, _ | 6, _, 5, _ | 6, _, 6, _ => simp [T.get2, T.set2]
def T.get (t : T) (i : Nat) : V := if i < 343 then ((t.get2 (i % 7)).get (i / 7 % 7)).get (i / 49) else vUnk
def T.set (t : T) (v : V) (i : Nat) : T :=
  if i < 343 then t.set2 ((t.get2 (i % 7)).set (((t.get2 (i % 7)).get (i / 7 % 7)).set v (i / 49)) (i / 7 % 7)) (i % 7) else t
theorem T.get_set_eq (t : T) (v : V) (i : Nat) (h : i < 343) : (t.set v i).get i = v := by
  simp only [T.get, T.set, h, if_true]
  rw [T.get2_set2 _ _ _ _ (by omega) (by omega), if_pos rfl, T2.get_set _ _ _ _ (by omega) (by omega), if_pos rfl, T1.get_set _ _ _ _ (by omega) (by omega), if_pos rfl]
theorem T.get_set_ne (t : T) (v : V) (i j : Nat) (h : j ≠ i) : (t.set v i).get j = t.get j := by
  unfold T.set
  split
  · unfold T.get
    split
    · rw [T.get2_set2 _ _ _ _ (by omega) (by omega)]
      split
      · rw [T2.get_set _ _ _ _ (by omega) (by omega)]
        split
        · rw [T1.get_set _ _ _ _ (by omega) (by omega), if_neg (by omega)]
          simp [*]
        · simp [*]
      · rfl
    · rfl
  · rfl
theorem T.get_set (t : T) (v : V) (i j : Nat) : (t.set v i).get j = if j = i then (if i < 343 then v else vUnk) else t.get j := by
  by_cases h : j = i
  · subst h
    rw [if_pos rfl]
    split
    · exact T.get_set_eq _ _ _ ‹_›
    · simp [T.get, *]
  · rw [if_neg h, T.get_set_ne _ _ _ _ h]
theorem T.get_e (i : Nat) : T.e.get i = vUnk := by
  have h1 : ∀ j, T1.e.get j = vUnk := by intro j; unfold T1.get T1.e; split <;> rfl
  have h2 : ∀ j, T2.e.get j = T1.e := by intro j; unfold T2.get T2.e; split <;> rfl
  have h3 : ∀ j, T.e.get2 j = T2.e := by intro j; unfold T.get2 T.e; split <;> rfl
  unfold T.get
  split
  · rw [h3, h2, h1]
  · rfl
structure P1 where
  (f0 f1 f2 f3 : V)
structure P2 where
  (f0 f1 f2 f3 : P1)
structure P3 where
  (f0 f1 f2 f3 : P2)
structure P4 where
  (f0 f1 f2 f3 : P3)
structure P5 where
  (f0 f1 f2 f3 : P4)
structure P6 where
  (f0 f1 f2 f3 : P5)
section
variable {α β : Type}
def sel4 (a b c d : α) : Nat → α
  | 0 => a | 1 => b | 2 => c | _ => d
end
def P1.get (t : P1) (i : Nat) : V := sel4 t.f0 t.f1 t.f2 t.f3 (i % 4)
def P2.get (t : P2) (i : Nat) : V := (sel4 t.f0 t.f1 t.f2 t.f3 (i / 4 % 4)).get i
def P3.get (t : P3) (i : Nat) : V := (sel4 t.f0 t.f1 t.f2 t.f3 (i / 16 % 4)).get i
def P4.get (t : P4) (i : Nat) : V := (sel4 t.f0 t.f1 t.f2 t.f3 (i / 64 % 4)).get i
def P5.get (t : P5) (i : Nat) : V := (sel4 t.f0 t.f1 t.f2 t.f3 (i / 256 % 4)).get i
def P6.get (t : P6) (i : Nat) : V := (sel4 t.f0 t.f1 t.f2 t.f3 (i / 1024 % 4)).get i
def P1.set (t : P1) (v : V) (i : Nat) : P1 := match t with
  | ⟨f0, f1, f2, f3⟩ => match i % 4 with
    | 0 => ⟨v, f1, f2, f3⟩
    | 1 => ⟨f0, v, f2, f3⟩
    | 2 => ⟨f0, f1, v, f3⟩
    | _ => ⟨f0, f1, f2, v⟩
def P2.set (t : P2) (v : V) (i : Nat) : P2 := match t with
  | ⟨f0, f1, f2, f3⟩ => match i / 4 % 4 with
    | 0 => ⟨f0.set v i, f1, f2, f3⟩
    | 1 => ⟨f0, f1.set v i, f2, f3⟩
    | 2 => ⟨f0, f1, f2.set v i, f3⟩
    | _ => ⟨f0, f1, f2, f3.set v i⟩
def P3.set (t : P3) (v : V) (i : Nat) : P3 := match t with
  | ⟨f0, f1, f2, f3⟩ => match i / 16 % 4 with
    | 0 => ⟨f0.set v i, f1, f2, f3⟩
    | 1 => ⟨f0, f1.set v i, f2, f3⟩
    | 2 => ⟨f0, f1, f2.set v i, f3⟩
    | _ => ⟨f0, f1, f2, f3.set v i⟩
def P4.set (t : P4) (v : V) (i : Nat) : P4 := match t with
  | ⟨f0, f1, f2, f3⟩ => match i / 64 % 4 with
    | 0 => ⟨f0.set v i, f1, f2, f3⟩
    | 1 => ⟨f0, f1.set v i, f2, f3⟩
    | 2 => ⟨f0, f1, f2.set v i, f3⟩
    | _ => ⟨f0, f1, f2, f3.set v i⟩
def P5.set (t : P5) (v : V) (i : Nat) : P5 := match t with
  | ⟨f0, f1, f2, f3⟩ => match i / 256 % 4 with
    | 0 => ⟨f0.set v i, f1, f2, f3⟩
    | 1 => ⟨f0, f1.set v i, f2, f3⟩
    | 2 => ⟨f0, f1, f2.set v i, f3⟩
    | _ => ⟨f0, f1, f2, f3.set v i⟩
def P6.set (t : P6) (v : V) (i : Nat) : P6 := match t with
  | ⟨f0, f1, f2, f3⟩ => match i / 1024 % 4 with
    | 0 => ⟨f0.set v i, f1, f2, f3⟩
    | 1 => ⟨f0, f1.set v i, f2, f3⟩
    | 2 => ⟨f0, f1, f2.set v i, f3⟩
    | _ => ⟨f0, f1, f2, f3.set v i⟩
theorem dig4 (n : Nat) : n % 4 = 0 ∨ n % 4 = 1 ∨ n % 4 = 2 ∨ n % 4 = 3 := by omega
theorem P1.get_set (t : P1) (v : V) (i j : Nat) : (t.set v i).get j = if j % 4 = i % 4 then v else t.get j := by
  rcases dig4 i with h | h | h | h <;> rcases dig4 j with g | g | g | g <;> simp [P1.get, P1.set, h, g, sel4]
theorem P2.get_set (t : P2) (v : V) (i j : Nat) : (t.set v i).get j = if j % 16 = i % 16 then v else t.get j := by
  have k : (j % 16 = i % 16) ↔ (j / 4 % 4 = i / 4 % 4 ∧ j % 4 = i % 4) := by omega
  rcases dig4 (i / 4) with h | h | h | h <;> rcases dig4 (j / 4) with g | g | g | g <;> simp [P2.get, P2.set, h, g, sel4, k, P1.get_set]
theorem P3.get_set (t : P3) (v : V) (i j : Nat) : (t.set v i).get j = if j % 64 = i % 64 then v else t.get j := by
  have k : (j % 64 = i % 64) ↔ (j / 16 % 4 = i / 16 % 4 ∧ j % 16 = i % 16) := by omega
  rcases dig4 (i / 16) with h | h | h | h <;> rcases dig4 (j / 16) with g | g | g | g <;> simp [P3.get, P3.set, h, g, sel4, k, P2.get_set]
theorem P4.get_set (t : P4) (v : V) (i j : Nat) : (t.set v i).get j = if j % 256 = i % 256 then v else t.get j := by
  have k : (j % 256 = i % 256) ↔ (j / 64 % 4 = i / 64 % 4 ∧ j % 64 = i % 64) := by omega
  rcases dig4 (i / 64) with h | h | h | h <;> rcases dig4 (j / 64) with g | g | g | g <;> simp [P4.get, P4.set, h, g, sel4, k, P3.get_set]
theorem P5.get_set (t : P5) (v : V) (i j : Nat) : (t.set v i).get j = if j % 1024 = i % 1024 then v else t.get j := by
  have k : (j % 1024 = i % 1024) ↔ (j / 256 % 4 = i / 256 % 4 ∧ j % 256 = i % 256) := by omega
  rcases dig4 (i / 256) with h | h | h | h <;> rcases dig4 (j / 256) with g | g | g | g <;> simp [P5.get, P5.set, h, g, sel4, k, P4.get_set]
theorem P6.get_set (t : P6) (v : V) (i j : Nat) : (t.set v i).get j = if j % 4096 = i % 4096 then v else t.get j := by
  have k : (j % 4096 = i % 4096) ↔ (j / 1024 % 4 = i / 1024 % 4 ∧ j % 1024 = i % 1024) := by omega
  rcases dig4 (i / 1024) with h | h | h | h <;> rcases dig4 (j / 1024) with g | g | g | g <;> simp [P6.get, P6.set, h, g, sel4, k, P5.get_set]
def P1.e : P1 := ⟨vUnk, vUnk, vUnk, vUnk⟩
def P2.e : P2 := ⟨.e, .e, .e, .e⟩
def P3.e : P3 := ⟨.e, .e, .e, .e⟩
def P4.e : P4 := ⟨.e, .e, .e, .e⟩
def P5.e : P5 := ⟨.e, .e, .e, .e⟩
def P6.e : P6 := ⟨.e, .e, .e, .e⟩
structure Cs where
  s : P1
  m : P3
  g : P6
def Cs.e : Cs := ⟨.e, .e, .e⟩
def Cs.get (c : Cs) (i : Nat) : V := if i < 4 then c.s.get i else if i < 68 then c.m.get (i - 4) else if i < 4164 then c.g.get (i - 68) else vUnk
def Cs.set (c : Cs) (v : V) (i : Nat) : Cs := match c with
  | ⟨s, m, g⟩ => if i < 4 then ⟨s.set v i, m, g⟩ else if i < 68 then ⟨s, m.set v (i - 4), g⟩ else if i < 4164 then ⟨s, m, g.set v (i - 68)⟩ else ⟨s, m, g⟩
theorem Cs.get_set (c : Cs) (v : V) (i j : Nat) : (c.set v i).get j = if j = i then (if i < 4164 then v else vUnk) else c.get j := by
  unfold Cs.set Cs.get
  by_cases h1 : i < 4
  · simp only [h1, if_true]
    by_cases g1 : j < 4
    · simp only [g1, if_true, P1.get_set]
      have : (j % 4 = i % 4) ↔ j = i := by omega
      simp only [this]
      simp [show i < 4164 by omega]
    · have : j ≠ i := by omega
      simp [g1, this]
  · simp only [h1, if_false]
    by_cases h2 : i < 68
    · simp only [h2, if_true]
      by_cases g1 : j < 4
      · have : j ≠ i := by omega
        simp [g1, this]
      · simp only [g1, if_false]
        by_cases g2 : j < 68
        · simp only [g2, if_true, P3.get_set]
          have : ((j - 4) % 64 = (i - 4) % 64) ↔ j = i := by omega
          simp only [this]
          simp [show i < 4164 by omega]
        · have : j ≠ i := by omega
          simp [g2, this]
    · simp only [h2, if_false]
      by_cases h3 : i < 4164
      · simp only [h3, if_true]
        by_cases g1 : j < 4
        · have : j ≠ i := by omega
          simp [g1, this]
        · simp only [g1, if_false]
          by_cases g2 : j < 68
          · have : j ≠ i := by omega
            simp [g2, this]
          · simp only [g2, if_false]
            by_cases g3 : j < 4164
            · simp only [g3, if_true, P6.get_set]
              have : ((j - 68) % 4096 = (i - 68) % 4096) ↔ j = i := by omega
              simp only [this]
            · have : j ≠ i := by omega
              simp [g3, this]
      · simp only [h3, if_false]
        by_cases hj : j = i
        · subst hj; simp [h1, h2, h3]
        · simp [hj]
end Go.Eng
end
section
namespace Go.Eng
structure E where
  key : V
  val : V
  born : Nat
  deriving Inhabited
structure B where
  tag : Nat
  n : Nat
  elem : Nat
  fz : Nat
  c : Cs
  es : List E
  tm : T
inductive BView where
  | dead
  | cells (n : Nat) (c : Cs) (elem fz : Nat) (x : Bool)
  | tab (n : Nat) (c : Cs) (elem : Nat)
  | map (es : List E) (clk : Nat)
  | loop (st pend site : Nat) (tm : T)
  | defs
  | ice
  | iter (m : V) (since : Nat) (seen : List Nat)
def B.view (b : B) : BView :=
  match b.tag with
  | 1 => .cells b.n b.c b.elem b.fz false
  | 6 => .cells b.n b.c b.elem b.fz true
  | 2 => .tab b.n b.c b.elem
  | 3 => .map b.es b.n
  | 4 => .loop b.n b.elem b.fz b.tm
  | 5 => .defs
  | 7 => .ice
  | 8 => .iter (b.c.get 0) b.n (b.es.map (·.born))
  | _ => .dead
def bDead : B := ⟨0, 0, 0, 0, .e, [], .e⟩
def bCells (n : Nat) (c : Cs) (elem fz : Nat) (x : Bool) : B := ⟨bif x then 6 else 1, n, elem, fz, c, [], .e⟩
def bTab (n : Nat) (c : Cs) (elem : Nat) : B := ⟨2, n, elem, 0, c, [], .e⟩
def bMap (es : List E) (clk : Nat) : B := ⟨3, clk, 0, 0, .e, es, .e⟩
def bLoop (st pend site : Nat) (tm : T) : B := ⟨4, st, pend, site, .e, [], tm⟩
def bDefs : B := ⟨5, 0, 0, 0, .e, [], .e⟩
def bIce : B := ⟨7, 0, 0, 0, .e, [], .e⟩
def bIter (m : V) (since : Nat) (seen : List Nat) : B := ⟨8, since, 0, 0, Cs.e.set m 0, seen.map fun n => ⟨vUnk, vUnk, n⟩, .e⟩
@[simp] theorem bview_dead : bDead.view = .dead := rfl
@[simp] theorem bview_cells (n c e f x) : (bCells n c e f x).view = .cells n c e f x := by cases x <;> rfl
@[simp] theorem bview_tab (n c e) : (bTab n c e).view = .tab n c e := rfl
@[simp] theorem bview_map (es k) : (bMap es k).view = .map es k := rfl
@[simp] theorem bview_loop (a b c d) : (bLoop a b c d).view = .loop a b c d := rfl
@[simp] theorem bview_defs : bDefs.view = .defs := rfl
@[simp] theorem bview_ice : bIce.view = .ice := rfl
@[simp] theorem bview_iter (m a b) : (bIter m a b).view = .iter m a b := by
  have h1 : (Cs.e.set m 0).get 0 = m := by rw [Cs.get_set]; simp
  have h2 : (b.map fun n => (⟨vUnk, vUnk, n⟩ : E)).map (·.born) = b := by simp [List.map_map, Function.comp_def]
  show BView.iter ((Cs.e.set m 0).get 0) a ((b.map fun n => (⟨vUnk, vUnk, n⟩ : E)).map (·.born)) = _
  rw [h1, h2]
structure N1 where
  (f0 f1 f2 f3 f4 f5 f6 f7 : B)
def N1.get (t : N1) : D8 → B
  | .d0 => t.f0 | .d1 => t.f1 | .d2 => t.f2 | .d3 => t.f3 | .d4 => t.f4 | .d5 => t.f5 | .d6 => t.f6 | .d7 => t.f7
def N1.set (t : N1) (v : B) (d : D8) : N1 := match t with
  | ⟨f0, f1, f2, f3, f4, f5, f6, f7⟩ => match d with
    | .d0 => ⟨v, f1, f2, f3, f4, f5, f6, f7⟩
    | .d1 => ⟨f0, v, f2, f3, f4, f5, f6, f7⟩
    | .d2 => ⟨f0, f1, v, f3, f4, f5, f6, f7⟩
    | .d3 => ⟨f0, f1, f2, v, f4, f5, f6, f7⟩
    | .d4 => ⟨f0, f1, f2, f3, v, f5, f6, f7⟩
    | .d5 => ⟨f0, f1, f2, f3, f4, v, f6, f7⟩
    | .d6 => ⟨f0, f1, f2, f3, f4, f5, v, f7⟩
    | .d7 => ⟨f0, f1, f2, f3, f4, f5, f6, v⟩
theorem N1.get_set (t : N1) (v : B) (i j : D8) : (t.set v i).get j = if j = i then v else t.get j := by
  cases i <;> cases j <;> rfl
def N1.e : N1 := ⟨bDead, bDead, bDead, bDead, bDead, bDead, bDead, bDead⟩
theorem N1.get_e (i : D8) : N1.e.get i = bDead := by cases i <;> rfl
structure N2 where
  (f0 f1 f2 f3 f4 f5 f6 f7 : N1)
def N2.get (t : N2) : D8 → N1
  | .d0 => t.f0 | .d1 => t.f1 | .d2 => t.f2 | .d3 => t.f3 | .d4 => t.f4 | .d5 => t.f5 | .d6 => t.f6 | .d7 => t.f7
def N2.set (t : N2) (v : N1) (d : D8) : N2 := match t with
  | ⟨f0, f1, f2, f3, f4, f5, f6, f7⟩ => match d with
    | .d0 => ⟨v, f1, f2, f3, f4, f5, f6, f7⟩
    | .d1 => ⟨f0, v, f2, f3, f4, f5, f6, f7⟩
    | .d2 => ⟨f0, f1, v, f3, f4, f5, f6, f7⟩
    | .d3 => ⟨f0, f1, f2, v, f4, f5, f6, f7⟩
    | .d4 => ⟨f0, f1, f2, f3, v, f5, f6, f7⟩
    | .d5 => ⟨f0, f1, f2, f3, f4, v, f6, f7⟩
    | .d6 => ⟨f0, f1, f2, f3, f4, f5, v, f7⟩
    | .d7 => ⟨f0, f1, f2, f3, f4, f5, f6, v⟩
theorem N2.get_set (t : N2) (v : N1) (i j : D8) : (t.set v i).get j = if j = i then v else t.get j := by
  cases i <;> cases j <;> rfl
def N2.e : N2 := ⟨.e, .e, .e, .e, .e, .e, .e, .e⟩
theorem N2.get_e (i : D8) : N2.e.get i = N1.e := by cases i <;> rfl
structure N3 where
  (f0 f1 f2 f3 f4 f5 f6 f7 : N2)
def N3.get (t : N3) : D8 → N2
  | .d0 => t.f0 | .d1 => t.f1 | .d2 => t.f2 | .d3 => t.f3 | .d4 => t.f4 | .d5 => t.f5 | .d6 => t.f6 | .d7 => t.f7
def N3.set (t : N3) (v : N2) (d : D8) : N3 := match t with
  | ⟨f0, f1, f2, f3, f4, f5, f6, f7⟩ => match d with
    | .d0 => ⟨v, f1, f2, f3, f4, f5, f6, f7⟩
    | .d1 => ⟨f0, v, f2, f3, f4, f5, f6, f7⟩
    | .d2 => ⟨f0, f1, v, f3, f4, f5, f6, f7⟩
    | .d3 => ⟨f0, f1, f2, v, f4, f5, f6, f7⟩
    | .d4 => ⟨f0, f1, f2, f3, v, f5, f6, f7⟩
    | .d5 => ⟨f0, f1, f2, f3, f4, v, f6, f7⟩
    | .d6 => ⟨f0, f1, f2, f3, f4, f5, v, f7⟩
    | .d7 => ⟨f0, f1, f2, f3, f4, f5, f6, v⟩
theorem N3.get_set (t : N3) (v : N2) (i j : D8) : (t.set v i).get j = if j = i then v else t.get j := by
  cases i <;> cases j <;> rfl
def N3.e : N3 := ⟨.e, .e, .e, .e, .e, .e, .e, .e⟩
theorem N3.get_e (i : D8) : N3.e.get i = N2.e := by cases i <;> rfl
structure N4 where
  (f0 f1 f2 f3 f4 f5 f6 f7 : N3)
def N4.get (t : N4) : D8 → N3
  | .d0 => t.f0 | .d1 => t.f1 | .d2 => t.f2 | .d3 => t.f3 | .d4 => t.f4 | .d5 => t.f5 | .d6 => t.f6 | .d7 => t.f7
def N4.set (t : N4) (v : N3) (d : D8) : N4 := match t with
  | ⟨f0, f1, f2, f3, f4, f5, f6, f7⟩ => match d with
    | .d0 => ⟨v, f1, f2, f3, f4, f5, f6, f7⟩
    | .d1 => ⟨f0, v, f2, f3, f4, f5, f6, f7⟩
    | .d2 => ⟨f0, f1, v, f3, f4, f5, f6, f7⟩
    | .d3 => ⟨f0, f1, f2, v, f4, f5, f6, f7⟩
    | .d4 => ⟨f0, f1, f2, f3, v, f5, f6, f7⟩
    | .d5 => ⟨f0, f1, f2, f3, f4, v, f6, f7⟩
    | .d6 => ⟨f0, f1, f2, f3, f4, f5, v, f7⟩
    | .d7 => ⟨f0, f1, f2, f3, f4, f5, f6, v⟩
theorem N4.get_set (t : N4) (v : N3) (i j : D8) : (t.set v i).get j = if j = i then v else t.get j := by
  cases i <;> cases j <;> rfl
def N4.e : N4 := ⟨.e, .e, .e, .e, .e, .e, .e, .e⟩
theorem N4.get_e (i : D8) : N4.e.get i = N3.e := by cases i <;> rfl
structure N5 where
  (f0 f1 f2 f3 f4 f5 f6 f7 : N4)
def N5.get (t : N5) : D8 → N4
  | .d0 => t.f0 | .d1 => t.f1 | .d2 => t.f2 | .d3 => t.f3 | .d4 => t.f4 | .d5 => t.f5 | .d6 => t.f6 | .d7 => t.f7
def N5.set (t : N5) (v : N4) (d : D8) : N5 := match t with
  | ⟨f0, f1, f2, f3, f4, f5, f6, f7⟩ => match d with
    | .d0 => ⟨v, f1, f2, f3, f4, f5, f6, f7⟩
    | .d1 => ⟨f0, v, f2, f3, f4, f5, f6, f7⟩
    | .d2 => ⟨f0, f1, v, f3, f4, f5, f6, f7⟩
    | .d3 => ⟨f0, f1, f2, v, f4, f5, f6, f7⟩
    | .d4 => ⟨f0, f1, f2, f3, v, f5, f6, f7⟩
    | .d5 => ⟨f0, f1, f2, f3, f4, v, f6, f7⟩
    | .d6 => ⟨f0, f1, f2, f3, f4, f5, v, f7⟩
    | .d7 => ⟨f0, f1, f2, f3, f4, f5, f6, v⟩
theorem N5.get_set (t : N5) (v : N4) (i j : D8) : (t.set v i).get j = if j = i then v else t.get j := by
  cases i <;> cases j <;> rfl
def N5.e : N5 := ⟨.e, .e, .e, .e, .e, .e, .e, .e⟩
theorem N5.get_e (i : D8) : N5.e.get i = N4.e := by cases i <;> rfl
structure H where
  t : N5
  next : Nat
  pn : V
def N5.at (t : N5) (i : Id) : B := ((((t.get i.e).get i.d).get i.c).get i.b).get i.a
def N5.put (t : N5) (x : B) (i : Id) : N5 :=
  let t4 := t.get i.e; let t3 := t4.get i.d; let t2 := t3.get i.c; let t1 := t2.get i.b
  t.set (t4.set (t3.set (t2.set (t1.set x i.a) i.b) i.c) i.d) i.e
theorem N5.at_put (t : N5) (x : B) (i j : Id) : (t.put x i).at j = if j = i then x else t.at j := by
  obtain ⟨a, b, c, d, e⟩ := i
  obtain ⟨a', b', c', d', e'⟩ := j
  simp only [N5.at, N5.put, N5.get_set]
  by_cases h5 : e' = e
  · subst h5
    simp only [if_true, N4.get_set]
    by_cases h4 : d' = d
    · subst h4
      simp only [if_true, N3.get_set]
      by_cases h3 : c' = c
      · subst h3
        simp only [if_true, N2.get_set]
        by_cases h2 : b' = b
        · subst h2
          simp only [if_true, N1.get_set]
          by_cases h1 : a' = a
          · subst h1; simp
          · simp [h1]
        · simp [h2]
      · simp [h3]
    · simp [h4]
  · simp [h5]
def H.blk (h : H) (i : Id) : B := h.t.at i
def H.put (h : H) (i : Id) (x : B) : H := match h with
  | ⟨t, n, p⟩ => ⟨t.put x i, n, p⟩
def H.new (h : H) (x : B) : H := match h with
  | ⟨t, n, p⟩ => ⟨t.put x (.of n), n + 1, p⟩
def H.setPn (h : H) (p : V) : H := match h with
  | ⟨t, n, _⟩ => ⟨t, n, p⟩
@[simp] theorem H.blk_put (h : H) (i j : Id) (x : B) : (h.put i x).blk j = if j = i then x else h.blk j := N5.at_put _ _ _ _
@[simp] theorem H.blk_new (h : H) (j : Id) (x : B) : (h.new x).blk j = if j = .of h.next then x else h.blk j := N5.at_put _ _ _ _
@[simp] theorem H.blk_setPn (h : H) (j : Id) (p : V) : (h.setPn p).blk j = h.blk j := rfl
@[simp] theorem H.next_put (h : H) (i : Id) (x : B) : (h.put i x).next = h.next := rfl
@[simp] theorem H.next_new (h : H) (x : B) : (h.new x).next = h.next + 1 := rfl
@[simp] theorem H.next_setPn (h : H) (p : V) : (h.setPn p).next = h.next := rfl
@[simp] theorem H.pn_put (h : H) (i : Id) (x : B) : (h.put i x).pn = h.pn := rfl
@[simp] theorem H.pn_new (h : H) (x : B) : (h.new x).pn = h.pn := rfl
@[simp] theorem H.pn_setPn (h : H) (p : V) : (h.setPn p).pn = p := rfl
def H.room (h : H) : Bool := Nat.ble (h.next + 1) Id.max
end Go.Eng
end
section
namespace Go.Eng
inductive IX where
  | t (n : Nat) | c (v : V)
  deriving Inhabited
inductive LK where | bool | int | str | ptr
inductive EqK where | leaf (k : LK) | flat (ks : List LK) | sl | mp | fn | iface
inductive LenK where | str | arr (n : Nat) | sl | mp
inductive SlK where | str | sl (es : Nat) | arr (n es : Nat)
inductive CvK where | int (k : Nat) | same | bytes (elem : Nat) | tostr | mark | toUns | ofUns (l : List (Nat × Nat × Nat))
inductive Cal where
  | fn (f : Nat)
  | dyn (x : IX)
  | ext (e : Nat)
inductive IOp where
  | mv (x : IX)
  | pick (c a b : IX)
  | alloc (zs : List V) (elem : Nat)
  | box (elem : Nat) (x : IX)
  | build (zs : List V) (parts : List (Nat × Nat × IX))
  | buildSlice (elem es len : Nat) (zs : List V) (parts : List (Nat × IX))
  | load (n : Option Nat) (x : IX)
  | store (n : Nat) (x v : IX)
  | nilCheck (x : IX)
  | bin (op : BinOp) (x y : IX)
  | eq (k : EqK) (neg : Bool) (x y : IX)
  | un (op : UnOp) (x : IX)
  | cv (k : CvK) (x : IX)
  | mkIface (t : Nat) (x : IX)
  | mkFunc (f : Nat) (first cap : List IX)
  | mkMap
  | mkSlice (elem es bytes : Nat) (zs : List V) (l c : IX)
  | slice (k : SlK) (x : IX) (lo hi mx : Option IX)
  | fieldAddr (off : Nat) (x : IX)
  | field (off : Nat) (n : Option Nat) (x : IX)
  | indexAddr (arr : Option Nat) (es : Nat) (x i : IX)
  | index (arr : Option (Nat × Nat × Option Nat)) (x i : IX)
  | lookup (kt : EqK) (zero : V) (ok : Bool) (x i : IX)
  | mapUpdate (kt : EqK) (m k v : IX)
  | mapEntry (kt : EqK) (zero : V) (m k : IX)
  | entryStore (m s v : IX)
  | range (x : IX)
  | entry (x : IX)
  | next (x : IX)
  | typeAssert (t : Nat) (zero : V) (ok : Bool) (x : IX)
  | extract (x : IX) (i : Nat)
  | call (c : Cal) (args : List IX)
  | len (k : LenK) (x : IX)
  | cap (k : LenK) (x : IX)
  | append (elem es bytes : Nat) (zeros : Option (List V)) (s x : IX)
  | copy (es : Nat) (d s : IX)
  | minmax (mx : Bool) (x : IX) (xs : List IX)
  | recover
  | clear (zs : Option (List V)) (x : IX)
  | unsafeString (elem : Nat) (p n : IX)
  | unsafeSliceData (x : IX)
  | defer (f : IX) (args : List IX)
  | panic (x : IX)
  | bad
structure IOper where
  dst : Option Nat
  op : IOp
  g : Option (Nat × Bool)
  w : Nat := 0
  q : Nat := 0
inductive IC where
  | skip
  | reg (ops : List IOper)
  | dreg (ops : List IOper)
  | seq (a b : IC)
  | cond (c : IX) (a b : IC)
  | block (id : Nat) (b : IC)
  | loop (b : IC)
  | rf (site : Nat) (f : IX)
  | amb (id dst it : Nat) (ops : List IOper) (p a x rest : IC)
  | exit (id : Nat)
  | ret
  | bad
  deriving Inhabited
inductive ARes where | t (n : Nat) | cell (a : Nat) (n : Option Nat)
structure IFunc where
  ntmps : Nat
  res : List ARes
  body : IC
  deriving Inhabited
structure Site where
  params : List Nat
  pre : IC
  body : IC
inductive ADef where
  | call (f : V) (args : List V)
  | mark (b : Id)
inductive Out where
  | nrm (tm : T) (df : List ADef) (h : H)
  | ext (id : Nat) (tm : T) (df : List ADef) (h : H)
  | ret (tm : T) (df : List ADef) (h : H)
  | pan (v : V) (tm : T) (df : List ADef) (h : H)
  | fail
inductive CRes where
  | ok (v : V) (h : H) | pan (v : V) (h : H) | fail
inductive OR where
  | val (v : V) (h : H)
  | fail
def ev (tm : T) : IX → V
  | .t n => tm.get n
  | .c v => v
def kOf : Nat → IntKind
  | 0 => .i64 | 1 => .i8 | 2 => .i16 | 3 => .i32 | 4 => .u8 | 5 => .u16 | 6 => .u32 | _ => .u64
def kTo : IntKind → Nat
  | .i64 => 0 | .i8 => 1 | .i16 => 2 | .i32 => 3 | .u8 => 4 | .u16 => 5 | .u32 => 6 | .u64 => 7
def off63 : Nat := 9223372036854775808
def dI (a : Nat) : Int := (a : Int) - off63
def eI (n : Int) : Nat := (n + off63).toNat
def vI64 (n : Nat) : V := vInt 0 (n + off63)
def vOfI (k : IntKind) (n : Int) : V := vInt (kTo k) (eI n)
def natOf (v : V) : Option Nat := match v.view with
  | .int _ a => if off63 ≤ a then some (a - off63) else none
  | _ => none
def strAt (x i : Nat) : Nat := x / 256 ^ i % 256
def subStr (x a b : Nat) : Nat := x / 256 ^ a % 256 ^ (b - a)
def packL : List Nat → Nat
  | [] => 0
  | b :: l => b + 256 * packL l
def unpackN (x : Nat) : Nat → List Nat
  | 0 => []
  | n + 1 => x % 256 :: unpackN (x / 256) n
def ltL : List Nat → List Nat → Bool
  | _, [] => false
  | [], _ :: _ => true
  | a :: x, b :: y => a < b || (a == b && ltL x y)
def strLt (l x m y : Nat) : Bool := ltL (unpackN x l) (unpackN y m)
def loadCells (c : Cs) (o : Nat) : Nat → List V
  | 0 => []
  | n + 1 => c.get o :: loadCells c (o + 1) n
def setCells (c : Cs) (o : Nat) : List V → Cs
  | [] => c
  | v :: vs => setCells (c.set v o) (o + 1) vs
def cellsOf (v : V) : List V := match v.view with
  | .agg l => l
  | _ => [v]
def mkCells (vs : List V) : Cs := setCells .e 0 vs
def rep (zs : List V) : Nat → List V
  | 0 => []
  | n + 1 => zs ++ rep zs n
def V.cell (v : V) : Bool := match v.view with
  | .unk | .agg _ | .tup _ | .undef => false
  | _ => true
def flat (vs : List V) : Bool := vs.all V.cell
def rdCells (h : H) (b : Id) (o n : Nat) : Option (List V) := match (h.blk b).view with
  | .cells sz c _ _ _ => if o + n ≤ sz ∧ sz ≤ 4164 then some (loadCells c o n) else none
  | .tab sz c _ => if o + n ≤ sz ∧ sz ≤ 4164 then some (loadCells c o n) else none
  | _ => none
def loadA (h : H) (n : Option Nat) (x : V) : OR := match x.view with
  | .ptr b o => match n with
    | none => match rdCells h b o 1 with
      | some [v] => .val v h
      | _ => .fail
    | some m => match rdCells h b o m with
      | some l => .val (vAgg l) h
      | none => .fail
  | _ => .fail
def storeA (h : H) (b : Id) (o : Nat) (vs : List V) : Option H := match (h.blk b).view with
  | .cells sz c e fz x => if fz ≤ o ∧ o + vs.length ≤ sz ∧ sz ≤ 4164 ∧ flat vs = true then some (h.put b (bCells sz (setCells c o vs) e fz x)) else none
  | _ => none
def newA (h : H) (e : Nat) (x : Bool) (vs : List V) (k : Id → V) : OR :=
  if h.room = true ∧ vs.length ≤ 4164 ∧ flat vs = true then .val (k (.of h.next)) (h.new (bCells vs.length (mkCells vs) e 0 x)) else .fail
def aeqS (k : LK) (x y : V) : Option Bool := match k, x.view, y.view with
  | .bool, .bool a, .bool b => some (a == b)
  | .int, .int j a, .int k b => if j = k then some (a == b) else none
  | .str, .str l x, .str m y => some (l == m && x == y)
  | .ptr, .nilp, .nilp => some true | .ptr, .nilp, .ptr _ _ => some false | .ptr, .ptr _ _, .nilp => some false
  | .ptr, .ptr b o, .ptr c p => if b = c then some (o == p) else none
  | _, _, _ => none
def aeqL : List LK → List V → List V → Option Bool
  | [], [], [] => some true
  | k :: ks, a :: as, b :: bs => match aeqS k a b with
    | some true => aeqL ks as bs
    | r => r
  | _, _, _ => none
def aeq (k : EqK) (x y : V) : Option Bool := match k with
  | .leaf k => aeqS k x y
  | .flat ks => match x.view, y.view with
    | .agg a, .agg b => if a.length = ks.length ∧ b.length = ks.length then aeqL ks a b else none
    | _, _ => none
  | .sl => match x.view, y.view with
    | .nils, .nils => some true | .nils, .sl .. => some false | .sl .., .nils => some false
    | _, _ => none
  | .mp => match x.view, y.view with
    | .nilm, .nilm => some true | .nilm, .mp _ => some false | .mp _, .nilm => some false
    | _, _ => none
  | .fn => match x.view, y.view with
    | .nilf, .nilf => some true | .nilf, .fn .. => some false | .fn .., .nilf => some false
    | _, _ => none
  | .iface => match x.view, y.view with
    | .nili, .nili => some true | .nili, .iface .. => some false | .iface .., .nili => some false
    | _, _ => none
def binI (op : BinOp) (k : IntKind) (a b : Int) : Option V := match op with
  | .add => some (vOfI k (k.wrap (a + b)))
  | .sub => some (vOfI k (k.wrap (a - b)))
  | .mul => some (vOfI k (k.wrap (a * b)))
  | .quo => if b = 0 then none else some (vOfI k (k.wrap (a.tdiv b)))
  | .rem => if b = 0 then none else some (vOfI k (a.tmod b))
  | .and => some (vOfI k (k.wrap (BitVec.ofInt k.bits a &&& BitVec.ofInt k.bits b).toNat))
  | .or => some (vOfI k (k.wrap (BitVec.ofInt k.bits a ||| BitVec.ofInt k.bits b).toNat))
  | .xor => some (vOfI k (k.wrap (BitVec.ofInt k.bits a ^^^ BitVec.ofInt k.bits b).toNat))
  | .eql => some (vBool (a == b))
  | .neq => some (vBool (a != b))
  | .lss => some (vBool (a < b))
  | .leq => some (vBool (a ≤ b))
  | .gtr => some (vBool (a > b))
  | .geq => some (vBool (a ≥ b))
  | _ => none
def binS (op : BinOp) (l x m y : Nat) : Option V := match op with
  | .add => if l + m < off63 then some (vStr (l + m) (x + 256 ^ l * y)) else none
  | .eql => some (vBool (l == m && x == y))
  | .neq => some (vBool (!(l == m && x == y)))
  | .lss => some (vBool (strLt l x m y))
  | .leq => some (vBool (strLt l x m y || (l == m && x == y)))
  | .gtr => some (vBool (!(strLt l x m y || (l == m && x == y))))
  | .geq => some (vBool (!(strLt l x m y)))
  | _ => none
def binA (op : BinOp) (x y : V) : Option V := match x.view, y.view with
  | .int k a, .int k' b => match op with
    | .shl => if dI b < 0 then none else some (vOfI (kOf k) ((kOf k).wrap (dI a * 2 ^ (min (dI b).toNat (kOf k).bits))))
    | .shr => if dI b < 0 then none else some (vOfI (kOf k) ((dI a).fdiv (2 ^ (min (dI b).toNat (kOf k).bits))))
    | op => if k = k' then binI op (kOf k) (dI a) (dI b) else none
  | .str l x, .str m y => binS op l x m y
  | _, _ => none
def findE (kt : EqK) (k : V) : List E → Option (Option E)
  | [] => some none
  | e :: es => match aeq kt k e.key with
    | some true => some (some e)
    | some false => findE kt k es
    | none => none
def updE (kt : EqK) (k : V) (v : Option V) : List E → List E
  | [] => []
  | e :: es => match aeq kt k e.key with
    | some true => ⟨k, v.getD e.val, e.born⟩ :: es
    | _ => e :: updE kt k v es
def updB (n : Nat) (v : V) : List E → Option (List E)
  | [] => none
  | e :: es => if e.born = n then some (⟨e.key, v, e.born⟩ :: es) else (updB n v es).map (e :: ·)
def leafOk (k : LK) (v : V) : Bool := match k, v.view with
  | .bool, .bool _ | .int, .int .. | .str, .str .. => true
  | _, _ => false
def leafsOk : List LK → List V → Bool
  | [], [] => true
  | k :: ks, v :: vs => leafOk k v && leafsOk ks vs
  | _, _ => false
def keyOk (kt : EqK) (v : V) : Bool := match kt with
  | .leaf k => leafOk k v
  | .flat ks => (match v.view with
    | .agg l => leafsOk ks l
    | _ => false)
  | _ => false
def fillA (cells : List V) : List (Nat × Nat × List V) → Option (List V)
  | [] => some cells
  | (off, n, vs) :: rest => if vs.length = n ∧ off + n ≤ cells.length then fillA (cells.take off ++ vs ++ cells.drop (off + n)) rest else none
def sliceBounds (len cap : Nat) (lo hi mx : Option V) : Option (Nat × Nat × Nat) :=
  match (match mx with | some v => natOf v | none => some cap), (match hi with | some v => natOf v | none => some len), (match lo with | some v => natOf v | none => some 0) with
  | some m, some h, some l => if m ≤ cap ∧ h ≤ m ∧ l ≤ h then some (l, h, m) else none
  | _, _, _ => none
def opSlice (h : H) (k : SlK) (x : V) (lo hi mx : Option V) : OR :=
  match k, x.view with
  | .str, .str l s => match mx, sliceBounds l l lo hi none with
    | none, some (a, b, _) => .val (vStr (b - a) (subStr s a b)) h
    | _, _ => .fail
  | .sl _, .nils => match sliceBounds 0 0 lo hi mx with
    | some _ => .val vNils h
    | none => .fail
  | .sl es, .sl b o len cap es' ex => match sliceBounds len cap lo hi mx with
    | some (l, hh, m) => if es = es' then .val (vSl b (o + l * es) (hh - l) (m - l) es (ex || mx.isSome)) h else .fail
    | none => .fail
  | .arr n es, .ptr b o => match sliceBounds n n lo hi mx with
    | some (l, hh, m) => match (h.blk b).view with
      | .cells sz _ _ _ _ => if o + n * es ≤ sz then .val (vSl b (o + l * es) (hh - l) (m - l) es true) h else .fail
      | _ => .fail
    | none => .fail
  | _, _ => .fail
def lenA (v : V) : Option Nat := match v.view with
  | .nils => some 0
  | .sl _ _ n _ _ _ => some n
  | .str l _ => some l
  | _ => none
def firstCells (h : H) (es n : Nat) (v : V) : Option (List V) := match v.view with
  | .nils => some []
  | .sl b o _ _ _ _ => if n * es = 0 then some [] else rdCells h b o (n * es)
  | .str _ x => some ((unpackN x n).map fun b => vInt 4 (b + off63))
  | _ => none
def appC (c : Cs) (o k : Nat) (new : List V) : Cs := if o = 0 then setCells c k new else mkCells (loadCells c o k ++ new)
def appendN (h : H) (elem es : Nat) (s : V) (new : List V) (n : Nat) : OR :=
  match s.view with
  | .nils => if n = 0 then .val vNils h else newA h elem false new fun b => vSl b 0 n n es false
  | .sl b o len cap es' ex =>
    if es = es' then
      if len + n ≤ cap then
        if n = 0 then .val (vSl b o (len + n) cap es ex) h else
        match storeA h b (o + len * es) new with
        | some h => .val (vSl b o (len + n) cap es ex) h
        | none => .fail
      else if ex then
        match rdCells h b o (len * es) with
        | some old => newA h elem false (old ++ new) fun b => vSl b 0 (len + n) (len + n) es false
        | none => .fail
      else match (h.blk b).view with
        | .cells sz c e fz _ =>
          if o + len * es ≤ sz ∧ sz ≤ 4164 ∧ e = elem ∧ fz ≤ o + len * es ∧ h.room = true ∧ (len + n) * es ≤ 4164 ∧ flat new = true then
            .val (vSl (.of h.next) 0 (len + n) (len + n) es false)
              ((h.put b bDead).new (bCells ((len + n) * es) (appC c o (len * es) new) elem (fz - o) false))
          else .fail
        | _ => .fail
    else .fail
  | _ => .fail
def okUns (e o sz : Nat) : List (Nat × Nat × Nat) → Bool
  | [] => false
  | (a, b, c) :: l => (a == e && b == o && c == sz) || okUns e o sz l
def known (v : V) : Bool := match v.view with
  | .unk | .undef => false
  | _ => true
def small (n bytes : Nat) : Bool := (2 * n + 768) * bytes ≤ 2 ^ 40
def opAppend (h : H) (elem es bytes : Nat) (zeros : Option (List V)) (s x : V) : OR :=
  match (match zeros with
    | some zs => (natOf x).bind fun n => if n ≤ 4164 then some (n, rep zs n) else none
    | none => (lenA x).bind fun n => (firstCells h es n x).map fun l => (n, l)), lenA s with
  | some (n, new), some m => if small (m + n) bytes = true ∧ small (m + n) 1 = true ∧ 0 < bytes ∧ new.length = n * es then appendN h elem es s new n else .fail
  | _, _ => .fail
def bytesOf : List V → Option (List Nat)
  | [] => some []
  | v :: vs => match v.view, bytesOf vs with
    | .int 4 a, some l => if off63 ≤ a ∧ a < off63 + 256 then some ((a - off63) :: l) else none
    | _, _ => none
def mm (mx : Bool) (a b : Nat) : Nat := if mx then (if b > a then b else a) else (if b < a then b else a)
def mmL (mx : Bool) (k : Nat) : Nat → List V → Option Nat
  | a, [] => some a
  | a, v :: vs => match v.view with
    | .int j b => if j = k then mmL mx k (mm mx a b) vs else none
    | _ => none
def mapOf (h : H) (x : V) : Option (List E) := match x.view with
  | .nilm => some []
  | .mp b => match (h.blk b).view with
    | .map es _ => some es
    | _ => none
  | _ => none
structure Wk where
  b : Id
  m : V
  mb : Id
  since : Nat
  seen : List Nat
  l : List E
def walkA (h : H) (it : V) : Option Wk := match it.view with
  | .ptr b 0 => match (h.blk b).view with
    | .iter m since seen => match m.view with
      | .mp mb => match (h.blk mb).view with
        | .map es clk => if clk = since ∧ (es.all fun e => Nat.blt e.born since) = true then some ⟨b, m, mb, since, seen, es.filter fun e => !(seen.any fun n => Nat.beq n e.born)⟩ else none
        | _ => none
      | _ => none
    | _ => none
  | _ => none
def Wk.to (k : Wk) (e : E) (h : H) : H := h.put k.b (bIter k.m k.since (k.seen ++ [e.born]))
def tokA (e : E) : V := vTup [vBool true, e.key, e.val]
def overA : V := vTup [vBool false]
def opA (tm : T) (h : H) : IOp → OR
  | .mv x => .val (ev tm x) h
  | .pick c a b => match (ev tm c).view with
    | .bool t => .val (if t then ev tm a else ev tm b) h
    | _ => .fail
  | .alloc zs e => newA h e true zs fun b => vPtr b 0
  | .box e x => newA h e true (cellsOf (ev tm x)) fun b => vPtr b 0
  | .build zs ps => if ps.all (fun p => known (ev tm p.2.2)) then match fillA zs (ps.map fun (o, n, x) => (o, n, cellsOf (ev tm x))) with
    | some l => .val (vAgg l) h
    | none => .fail
    else .fail
  | .buildSlice e es len zs ps => if ps.all (fun p => known (ev tm p.2)) then match fillA (rep zs len) (ps.map fun (i, x) => (i * es, es, cellsOf (ev tm x))) with
    | some l => if l.length = len * es then newA h e true l fun b => vSl b 0 len len es true else .fail
    | none => .fail
    else .fail
  | .load n x => loadA h n (ev tm x)
  | .store n x v => match (ev tm x).view with
    | .ptr b o => if (cellsOf (ev tm v)).length = n then
        match storeA h b o (cellsOf (ev tm v)) with
        | some h => .val vUnk h
        | none => .fail
      else .fail
    | _ => .fail
  | .nilCheck x => match (ev tm x).view with
    | .ptr b o => .val (vPtr b o) h
    | .fn f n l => .val (vFn f n l) h
    | _ => .fail
  | .bin op x y => match binA op (ev tm x) (ev tm y) with
    | some v => .val v h
    | none => .fail
  | .eq k neg x y => match aeq k (ev tm x) (ev tm y) with
    | some b => .val (vBool (b != neg)) h
    | none => .fail
  | .un op x => match op, (ev tm x).view with
    | .not, .bool b => .val (vBool (!b)) h
    | .neg, .int k a => .val (vOfI (kOf k) ((kOf k).wrap (0 - dI a))) h
    | _, _ => .fail
  | .cv k x => match k, (ev tm x).view with
    | .int k, .int _ a => .val (vOfI (kOf k) ((kOf k).wrap (dI a))) h
    | .same, .str _ _ => .val (ev tm x) h
    | .tostr, .nils => .val (vStr 0 0) h
    | .tostr, .sl b o len _ _ _ => if len = 0 then .val (vStr 0 0) h else match (rdCells h b o len).bind bytesOf with
      | some l => .val (vStr len (packL l)) h
      | none => .fail
    | .bytes e, .str l x => if h.room = true ∧ l ≤ 4164 then .val (vSl (.of h.next) 0 l l 1 false) (h.new (bCells l (mkCells ((unpackN x l).map fun b => vInt 4 (b + off63))) e 5000 false)) else .fail
    | .mark, .sl b _ _ _ _ _ => match (h.blk b).view with
      | .cells sz c e _ x0 => .val (ev tm x) (h.put b (bCells sz c e (sz + 1) x0))
      | _ => .fail
    | .toUns, .ptr b o => match (h.blk b).view with
      | .cells sz _ _ _ _ => if o < sz then .val (ev tm x) h else .fail
      | _ => .fail
    | .ofUns l, .ptr b o => match (h.blk b).view with
      | .cells sz _ e _ true => if okUns e o sz l then .val (ev tm x) h else .fail
      | _ => .fail
    | _, _ => .fail
  | .mkIface t x => .val (vIface t (ev tm x)) h
  | .mkFunc f a c => .val (vFn f a.length ((a ++ c).map (ev tm))) h
  | .mkMap => if h.room = true then .val (vMp (.of h.next)) (h.new (bMap [] 0)) else .fail
  | .mkSlice e es bytes zs l c => match natOf (ev tm l), natOf (ev tm c) with
    | some l, some c => if l ≤ c ∧ small c bytes = true ∧ c * es ≤ 4164 ∧ (rep zs c).length = c * es then newA h e true (rep zs c) fun b => vSl b 0 l c es true else .fail
    | _, _ => .fail
  | .slice k x lo hi mx => opSlice h k (ev tm x) (lo.map (ev tm)) (hi.map (ev tm)) (mx.map (ev tm))
  | .fieldAddr off x => match (ev tm x).view with
    | .ptr b o => .val (vPtr b (o + off)) h
    | _ => .fail
  | .field off n x => match (ev tm x).view with
    | .agg l => match n with
      | none => match l[off]? with
        | some v => .val v h
        | none => .fail
      | some m => if off + m ≤ l.length then .val (vAgg ((l.drop off).take m)) h else .fail
    | _ => .fail
  | .indexAddr arr es x i => match natOf (ev tm i) with
    | some i => match arr, (ev tm x).view with
      | some n, .ptr b o => if i < n then .val (vPtr b (o + i * es)) h else .fail
      | none, .sl b o len _ _ _ => if i < len then .val (vPtr b (o + i * es)) h else .fail
      | _, _ => .fail
    | none => .fail
  | .index arr x i => match natOf (ev tm i) with
    | some i => match arr, (ev tm x).view with
      | none, .str l s => if i < l then .val (vInt 4 (strAt s i + off63)) h else .fail
      | some (n, es, ag), .agg l => if i < n then
          (match ag with
            | none => match l[i * es]? with
              | some v => .val v h
              | none => .fail
            | some m => if i * es + m ≤ l.length then .val (vAgg ((l.drop (i * es)).take m)) h else .fail)
        else .fail
      | _, _ => .fail
    | none => .fail
  | .lookup kt zero ok x i => match mapOf h (ev tm x) with
    | some es => if keyOk kt (ev tm i) = true then
        match findE kt (ev tm i) es with
        | some (some e) => .val (if ok then vTup [e.val, vBool true] else e.val) h
        | some none => .val (if ok then vTup [zero, vBool false] else zero) h
        | none => .fail
      else .fail
    | none => .fail
  | .mapUpdate kt m k v => match (ev tm m).view with
    | .mp b => match (h.blk b).view with
      | .map es clk => if keyOk kt (ev tm k) = true then
          match findE kt (ev tm k) es with
          | some (some _) => .val vUnk (h.put b (bMap (updE kt (ev tm k) (some (ev tm v)) es) clk))
          | some none => .val vUnk (h.put b (bMap (es ++ [⟨ev tm k, ev tm v, clk⟩]) (clk + 1)))
          | none => .fail
        else .fail
      | _ => .fail
    | _ => .fail
  | .mapEntry kt zero m k => match (ev tm m).view with
    | .mp b => match (h.blk b).view with
      | .map es clk => if keyOk kt (ev tm k) = true then
          match findE kt (ev tm k) es with
          | some (some e) => .val (vTup [e.val, vI64 e.born]) (h.put b (bMap (updE kt (ev tm k) none es) clk))
          | some none => .val (vTup [zero, vI64 clk]) (h.put b (bMap (es ++ [⟨ev tm k, zero, clk⟩]) (clk + 1)))
          | none => .fail
        else .fail
      | _ => .fail
    | _ => .fail
  | .entryStore m s v => match (ev tm m).view, natOf (ev tm s) with
    | .mp b, some n => match (h.blk b).view with
      | .map es clk => match updB n (ev tm v) es with
        | some es => .val vUnk (h.put b (bMap es clk))
        | none => .fail
      | _ => .fail
    | _, _ => .fail
  | .range x => match (ev tm x).view with
    | .mp b => match (h.blk b).view with
      | .map _ clk => if h.room = true then .val (vPtr (.of h.next) 0) (h.new (bIter (vMp b) clk [])) else .fail
      | _ => .fail
    | _ => .fail
  | .entry x => match (ev tm x).view with
    | .ptr b 0 => match (h.blk b).view with
      | .iter m since seen => match m.view, seen.getLast? with
        | .mp mb, some stamp => match (h.blk mb).view with
          | .map es clk => if clk = since then match es.find? (fun e => Nat.beq e.born stamp) with
              | some e => .val (vTup [e.key, e.val]) h
              | none => .fail
            else .fail
          | _ => .fail
        | _, _ => .fail
      | _ => .fail
    | _ => .fail
  | .next x => match walkA h (ev tm x) with
    | some k => match k.l with
      | [] => .val overA h
      | [e] => .val (tokA e) (k.to e h)
      | _ => .fail
    | none => .fail
  | .typeAssert t zero ok x => match (ev tm x).view with
    | .nili => if ok then .val (vTup [zero, vBool false]) h else .fail
    | .iface u v => if u = t then .val (if ok then vTup [v, vBool true] else v) h
      else if ok then .val (vTup [zero, vBool false]) h else .fail
    | _ => .fail
  | .extract x i => match (ev tm x).view with
    | .tup l => match l[i]? with
      | some v => .val v h
      | none => .fail
    | _ => .fail
  | .len k x => match k, (ev tm x).view with
    | .str, .str l _ => .val (vI64 l) h
    | .arr n, _ => .val (vI64 n) h
    | .sl, .nils => .val (vI64 0) h
    | .sl, .sl _ _ n _ _ _ => .val (vI64 n) h
    | .mp, .nilm => .val (vI64 0) h
    | .mp, .mp b => match (h.blk b).view with
      | .map es _ => .val (vI64 es.length) h
      | _ => .fail
    | _, _ => .fail
  | .cap k x => match k, (ev tm x).view with
    | .arr n, _ => .val (vI64 n) h
    | .sl, .nils => .val (vI64 0) h
    | .sl, .sl _ _ _ c _ ex => if ex then .val (vI64 c) h else .fail
    | _, _ => .fail
  | .append e es bytes zs s x => opAppend h e es bytes zs (ev tm s) (ev tm x)
  | .copy es d s => match (ev tm d).view, lenA (ev tm s) with
    | .nils, some _ => .val (vI64 0) h
    | .sl b o len _ es' _, some m =>
      if es = es' then
        match firstCells h es (min m len) (ev tm s) with
        | some l => if l.length = 0 then .val (vI64 (min m len)) h else match storeA h b o l with
          | some h => .val (vI64 (min m len)) h
          | none => .fail
        | none => .fail
      else .fail
    | _, _ => .fail
  | .minmax mx x xs => match (ev tm x).view with
    | .int k a => match mmL mx k a (xs.map (ev tm)) with
      | some r => .val (vInt k r) h
      | none => .fail
    | _ => .fail
  | .clear zs x => match zs, (ev tm x).view with
    | _, .nils => .val (vTup []) h
    | _, .nilm => .val (vTup []) h
    | some zs, .sl b o len _ _ _ => if len = 0 then .val (vTup []) h else match storeA h b o (rep zs len) with
      | some h => .val (vTup []) h
      | none => .fail
    | none, .mp b => match (h.blk b).view with
      | .map _ clk => .val (vTup []) (h.put b (bMap [] clk))
      | _ => .fail
    | _, _ => .fail
  | .unsafeSliceData x => match (ev tm x).view with
    | .nils => .val vNilp h
    | .sl b o _ c _ _ => if 0 < c then .val (vPtr b o) h else .fail
    | _ => .fail
  | .unsafeString el p n => match natOf (ev tm n) with
    | some n => match (ev tm p).view with
      | .nilp => if n = 0 then .val (vStr 0 0) h else .fail
      | .ptr b o => if n = 0 then .val (vStr 0 0) h else match (h.blk b).view with
        | .cells sz c e fz x => if fz ≤ sz ∧ e = el then match (rdCells h b o n).bind bytesOf with
          | some l => .val (vStr n (packL l)) (h.put b (bCells sz c e sz x))
          | none => .fail
          else .fail
        | _ => .fail
      | _ => .fail
    | none => .fail
  | .panic _ | .call .. | .recover | .defer .. | .bad => .fail
def idxByte (c : Nat) : List Nat → Nat → Nat
  | [], _ => off63 - 1
  | b :: l, i => if b = c then i + off63 else idxByte c l (i + 1)
def extA (e : Nat) (args : List V) (h : H) : CRes :=
  match e, args with
  | 0, [s, c] => match s.view, c.view with
    | .str l x, .int 4 c => if off63 ≤ c ∧ c < off63 + 256 then .ok (vInt 0 (idxByte (c - off63) (unpackN x l) 0)) h else .fail
    | _, _ => .fail
  | 1, [s, t] => match s.view, t.view with
    | .str l x, .str m y => .ok (vInt 0 (if strLt l x m y then off63 - 1 else if l == m && x == y then off63 else off63 + 1)) h
    | _, _ => .fail
  | 2, [v] => .ok v h
  | _, _ => .fail
structure Env where
  funcs : Nat → Option IFunc
  sites : Nat → Option Site
  hook : Nat → Option (H → List V → CRes)
def setArgs (tm : T) : List Nat → List V → T
  | p :: ps, v :: vs => setArgs (tm.set v p) ps vs
  | _, _ => tm
def initTm (tm : T) (i : Nat) : List V → T
  | [] => tm
  | v :: vs => initTm (tm.set v i) (i + 1) vs
def resultsA (tm : T) (h : H) : List ARes → Option (List V)
  | [] => some []
  | .t n :: r => (resultsA tm h r).map (tm.get n :: ·)
  | .cell a n :: r => match loadA h n (tm.get a) with
    | .val v _ => (resultsA tm h r).map (v :: ·)
    | .fail => none
def one : List V → V
  | [v] => v
  | l => vTup l
abbrev Cl := V → List V → H → CRes
def quietly (call : Cl) : Cl := fun f args h => match call f args (h.setPn vUnk) with
  | .ok v h2 => .ok v (h2.setPn h.pn)
  | .pan v h2 => .pan v (h2.setPn h.pn)
  | .fail => .fail
def unwindA (call : Cl) (fn : IFunc) (q : V) : V → List ADef → T → H → CRes
  | p, .mark b :: ds, tm, h => match (h.blk b).view with
    | .defs => unwindA call fn q p ds tm (h.put b bDead)
    | _ => .fail
  | p, .call f args :: ds, tm, h => match call f args (h.setPn p) with
    | .ok _ h => unwindA call fn q h.pn ds tm h
    | _ => .fail
  | p, [], tm, h => match p.tag with
    | 0 => match resultsA tm h fn.res with
      | some l => .ok (one l) (h.setPn q)
      | none => .fail
    | _ => .pan p (h.setPn q)
inductive OpOut where
  | val (v : V) (df : List ADef) (h : H)
  | pan (v : V) (df : List ADef) (h : H)
  | fail
def ofCall (df : List ADef) : CRes → OpOut
  | .ok v h => .val v df h
  | .pan v h => .pan v df h
  | .fail => .fail
def opX (call : Cl) (tm : T) (df : List ADef) (h : H) : IOp → OpOut
  | .call c args => ofCall df (match c with
      | .fn f => quietly call (vFn f 0 []) (args.map (ev tm)) h
      | .dyn x => quietly call (ev tm x) (args.map (ev tm)) h
      | .ext e => extA e (args.map (ev tm)) h)
  | .recover => match h.pn.tag with
    | 0 => .val vNili df h
    | 13 => .val h.pn df (h.setPn vUnk)
    | _ => .fail
  | .defer f args => if h.pn.tag = 99 then .fail else match (ev tm f).view with
    | .fn g n l => .val vUnk (.call (vFn g n l) (args.map (ev tm)) :: df) h
    | _ => .fail
  | .panic x => match (ev tm x).view with
    | .iface t v => .pan (vIface t v) df h
    | _ => .fail
  | op => match opA tm h op with
    | .val v h => .val v df h
    | .fail => .fail
def putD (tm : T) (d : Option Nat) (v : V) : T := match d with
  | some d => tm.set v d
  | none => tm
def wanted (tm : T) : Option (Nat × Bool) → Option Bool
  | none => some true
  | some (t, b) => match (tm.get t).view with
    | .bool c => some (c == b)
    | .undef => some false
    | _ => none
def runOps (call : Cl) : List IOper → T → List ADef → H → Out
  | [], tm, df, h => .nrm tm df h
  | o :: ops, tm, df, h =>
    match wanted tm o.g with
    | some true => match opX call tm df h o.op with
      | .val v df h => runOps call ops (putD tm o.dst v) df h
      | .pan v df h => .pan v tm df h
      | .fail => .fail
    | some false => runOps call ops (putD tm o.dst vUndef) df h
    | none => .fail
def runIter (body : T → List ADef → H → Out) : Nat → T → List ADef → H → Out
  | 0, _, _, _ => .fail
  | n + 1, tm, df, h => match body tm df h with
    | .nrm tm df h => runIter body n tm df h
    | o => o
def maxRounds : Nat := 1000000
def endLoop (h : H) (l : Id) (tm : T) (df : List ADef) : Out := match (h.blk l).view with
  | .loop st pend site tm' => match st with
    | 1 => .fail
    | _ => match pend with
      | 0 => .nrm tm df (h.put l (bLoop 3 pend site tm'))
      | 1 => .ret tm df (h.put l (bLoop 3 pend site tm'))
      | id + 2 => .ext id tm df (h.put l (bLoop 3 pend site tm'))
  | _ => .fail
end Go.Eng
end
section
namespace Go.Eng
mutual
def vBeq : V → V → Bool
  | ⟨t, a, b, c, d, i, l⟩, ⟨t', a', b', c', d', i', l'⟩ => t == t' && a == a' && b == b' && c == c' && d == d' && i == i' && vBeqL l l'
def vBeqL : List V → List V → Bool
  | [], [] => true
  | x :: xs, y :: ys => vBeq x y && vBeqL xs ys
  | _, _ => false
end
mutual
theorem vBeq_eq : ∀ (x y : V), vBeq x y = true → x = y
  | ⟨t, a, b, c, d, i, l⟩, ⟨t', a', b', c', d', i', l'⟩, h => by
    simp only [vBeq, Bool.and_eq_true, beq_iff_eq] at h
    obtain ⟨⟨⟨⟨⟨⟨rfl, rfl⟩, rfl⟩, rfl⟩, rfl⟩, rfl⟩, hl⟩ := h
    rw [vBeqL_eq l l' hl]
theorem vBeqL_eq : ∀ (x y : List V), vBeqL x y = true → x = y
  | [], [], _ => rfl
  | x :: xs, y :: ys, h => by
    simp only [vBeqL, Bool.and_eq_true] at h
    rw [vBeq_eq x y h.1, vBeqL_eq xs ys h.2]
  | [], _ :: _, h => by simp [vBeqL] at h
  | _ :: _, [], h => by simp [vBeqL] at h
end
inductive Watch where
  | val (op : IOp) (tm : T) (v : V) (q : Nat)
  | blk (b : Id) (was : B) (q : Nat)
def sameB (x y : B) : Bool := match x.view, y.view with
  | .cells n c e f x, .cells m d e' f' x' => n == m && e == e' && f == f' && x == x' && vBeqL (loadCells c 0 n) (loadCells d 0 m)
  | .map [] k, .map [] k' => k == k'
  | _, _ => false
def Watch.holds (h : H) (k : Nat) : Watch → Bool
  | .val op tm v q => Nat.ble q k || (match opA tm h op with
    | .val v' _ => vBeq v v'
    | .fail => false)
  | .blk b was q => Nat.ble q k || sameB was (h.blk b)
def clearD : List IOper → T → T
  | [], tm => tm
  | o :: ops, tm => clearD ops (putD tm o.dst vUnk)
def runDraw (call : Cl) (all : List IOper) : List IOper → List Watch → Nat → T → List ADef → H → Out
  | [], _, _, tm, df, h => .nrm tm df h
  | o :: ops, ws, k, tm, df, h =>
    match wanted tm o.g with
    | some true => match opX call tm df h o.op with
      | .val v df h' => match o.w with
        | 3 => if ws.all (Watch.holds h' (k + 1)) then runDraw call all ops ws (k + 1) (putD tm o.dst v) df h' else .fail
        | 2 => if ws.all (Watch.holds h' k) then runDraw call all ops (.blk (.of h.next) (h'.blk (.of h.next)) o.q :: ws) k (putD tm o.dst v) df h' else .fail
        | 1 => runDraw call all ops (.val o.op tm v o.q :: ws) k (putD tm o.dst v) df h'
        | _ => runDraw call all ops ws k (putD tm o.dst v) df h'
      | .pan v df h => .pan v (clearD all tm) df h
      | .fail => .fail
    | some false => runDraw call all ops ws (if o.w == 3 then k + 1 else k) (putD tm o.dst vUndef) df h
    | none => .fail
def vNo (l : Id) : V := ⟨99, 0, 0, 0, 0, l, []⟩
def rfA (call : Cl) (site : Nat) (f : V) (tm : T) (df : List ADef) (h : H) : Out :=
  if h.pn.tag = 99 then
    match (h.blk h.pn.id).view with
    | .loop .. => if h.room = true then
      let l := Id.of h.next
      match quietly call f [vYld l] (h.new (bLoop 0 0 site tm)) with
      | .ok _ h2 => endLoop h2 l tm df
      | .pan v h2 => .pan v tm df h2
      | .fail => .fail
      else .fail
    | _ => .fail
  else if h.room = true ∧ (h.new bDefs).room = true then
    let l := Id.of (h.next + 1)
    match quietly call f [vYld l] ((h.new bDefs).new (bLoop 0 0 site tm)) with
    | .ok _ h2 => endLoop h2 l tm (.mark (.of h.next) :: df)
    | .pan v h2 => .pan v tm (.mark (.of h.next) :: df) h2
    | .fail => .fail
  else .fail
section maps
variable {α β : Type}
def N1.mapI (f : D8 → B → B) (t : N1) : N1 := ⟨f .d0 t.f0, f .d1 t.f1, f .d2 t.f2, f .d3 t.f3, f .d4 t.f4, f .d5 t.f5, f .d6 t.f6, f .d7 t.f7⟩
def N2.mapI (f : D8 → N1 → N1) (t : N2) : N2 := ⟨f .d0 t.f0, f .d1 t.f1, f .d2 t.f2, f .d3 t.f3, f .d4 t.f4, f .d5 t.f5, f .d6 t.f6, f .d7 t.f7⟩
def N3.mapI (f : D8 → N2 → N2) (t : N3) : N3 := ⟨f .d0 t.f0, f .d1 t.f1, f .d2 t.f2, f .d3 t.f3, f .d4 t.f4, f .d5 t.f5, f .d6 t.f6, f .d7 t.f7⟩
def N4.mapI (f : D8 → N3 → N3) (t : N4) : N4 := ⟨f .d0 t.f0, f .d1 t.f1, f .d2 t.f2, f .d3 t.f3, f .d4 t.f4, f .d5 t.f5, f .d6 t.f6, f .d7 t.f7⟩
def N5.mapD (f : D8 → N4 → N4) (t : N5) : N5 := ⟨f .d0 t.f0, f .d1 t.f1, f .d2 t.f2, f .d3 t.f3, f .d4 t.f4, f .d5 t.f5, f .d6 t.f6, f .d7 t.f7⟩
end maps
def N5.mapI (f : Id → B → B) (t : N5) : N5 := t.mapD fun e t => t.mapI fun d t => t.mapI fun c t => t.mapI fun b t => t.mapI fun a x => f ⟨a, b, c, d, e⟩ x
theorem N5.at_mapI (f : Id → B → B) (t : N5) (i : Id) : (t.mapI f).at i = f i (t.at i) := by
  obtain ⟨a, b, c, d, e⟩ := i
  have h1 : ∀ (g : D8 → B → B) (t : N1) (x : D8), (t.mapI g).get x = g x (t.get x) := by intro g t x; cases x <;> rfl
  have h2 : ∀ (g : D8 → N1 → N1) (t : N2) (x : D8), (t.mapI g).get x = g x (t.get x) := by intro g t x; cases x <;> rfl
  have h3 : ∀ (g : D8 → N2 → N2) (t : N3) (x : D8), (t.mapI g).get x = g x (t.get x) := by intro g t x; cases x <;> rfl
  have h4 : ∀ (g : D8 → N3 → N3) (t : N4) (x : D8), (t.mapI g).get x = g x (t.get x) := by intro g t x; cases x <;> rfl
  have h5 : ∀ (g : D8 → N4 → N4) (t : N5) (x : D8), (t.mapD g).get x = g x (t.get x) := by intro g t x; cases x <;> rfl
  simp only [N5.at, N5.mapI, h1, h2, h3, h4, h5]
def T1.zip (f : V → V → V) (x y : T1) : T1 := ⟨f x.f0 y.f0, f x.f1 y.f1, f x.f2 y.f2, f x.f3 y.f3, f x.f4 y.f4, f x.f5 y.f5, f x.f6 y.f6⟩
def T2.zip (f : V → V → V) (x y : T2) : T2 := ⟨x.f0.zip f y.f0, x.f1.zip f y.f1, x.f2.zip f y.f2, x.f3.zip f y.f3, x.f4.zip f y.f4, x.f5.zip f y.f5, x.f6.zip f y.f6⟩
def T.zip (f : V → V → V) (x y : T) : T := ⟨x.f0.zip f y.f0, x.f1.zip f y.f1, x.f2.zip f y.f2, x.f3.zip f y.f3, x.f4.zip f y.f4, x.f5.zip f y.f5, x.f6.zip f y.f6⟩
theorem T1.get_zip (f : V → V → V) (x y : T1) (i : Nat) : (x.zip f y).get i = f (x.get i) (y.get i) := by
  unfold T1.get; split <;> rfl
theorem T2.get_zip (f : V → V → V) (x y : T2) (i : Nat) : (x.zip f y).get i = (x.get i).zip f (y.get i) := by
  unfold T2.get; split <;> rfl
theorem T.get2_zip (f : V → V → V) (x y : T) (i : Nat) : (x.zip f y).get2 i = (x.get2 i).zip f (y.get2 i) := by
  unfold T.get2; split <;> rfl
theorem T.get_zip (f : V → V → V) (x y : T) (i : Nat) : (x.zip f y).get i = if i < 343 then f (x.get i) (y.get i) else vUnk := by
  unfold T.get
  split
  · rw [T.get2_zip, T2.get_zip, T1.get_zip]
  · rfl
def BView.isCells : BView → Bool
  | .cells .. => true
  | _ => false
def liveA (h : H) (b mb i : Id) : Bool := i == b || i == mb || (i == .of (b.nat - 1) && (h.blk i).view.isCells)
def frz (n : Nat) (L : Id → Bool) (i : Id) (x : B) : B := if i.nat < n ∧ L i = false then (match x.view with
  | .cells n c e _ _ => bTab n c e
  | .tab .. => x
  | _ => bIce) else x
def frost (h : H) (b mb : Id) : H := ⟨h.t.mapI (frz h.next (liveA h b mb)), h.next, h.pn⟩
def doneA (h : H) (b mb : Id) (es : List E) (clk : Nat) : H :=
  if (h.blk (.of (b.nat - 1))).view.isCells = true then ((h.put (.of (b.nat - 1)) bDead).put b bDead).put mb (bMap es clk) else (h.put b bDead).put mb (bMap es clk)
def V.flatV (v : V) : Bool := match v.view with
  | .int .. | .bool _ | .str .. => true
  | _ => false
def V.plainV (v : V) : Bool := v.flatV || (match v.view with
  | .agg l => l.all V.flatV
  | _ => false)
def esBeq : List E → List E → Bool
  | [], [] => true
  | x :: xs, y :: ys => vBeq x.key y.key && vBeq x.val y.val && Nat.beq x.born y.born && esBeq xs ys
  | _, _ => false
structure Lf where
  kind : Option Nat
  tm : T
  h : H
def lfOf : Out → Option Lf
  | .nrm tm [] h => some ⟨none, tm, h⟩
  | .ext id tm [] h => some ⟨some id, tm, h⟩
  | _ => none
def lfsOf : List Out → Option (List Lf)
  | [] => some []
  | o :: os => match lfOf o, lfsOf os with
    | some x, some l => some (x :: l)
    | _, _ => none
def mapAt (h : H) (mb : Id) : Option (List E × Nat) := match (h.blk mb).view with
  | .map es clk => if (es.all fun e => e.key.plainV && e.val.plainV) = true then some (es, clk) else none
  | _ => none
def Lf.agree (kind : Option Nat) (es : List E) (clk : Nat) (mb : Id) (pn : Nat) (x : Lf) : Bool :=
  x.kind == kind && x.h.pn.tag == pn && (match mapAt x.h mb with
    | some (es', clk') => esBeq es es' && clk == clk'
    | none => false)
def keepV (x y : V) : V := if vBeq x y then x else vUnk
def mergeA (tm : T) (h : H) (b mb : Id) (outs : List Out) : Out := match lfsOf outs with
  | some (x :: xs) => match mapAt x.h mb with
    | some (es, clk) => if ((x :: xs).all (Lf.agree x.kind es clk mb h.pn.tag)) = true then
        (match x.kind with
          | none => .nrm ((x :: xs).foldl (fun t x => t.zip keepV x.tm) tm) [] (doneA h b mb es clk)
          | some id => .ext id ((x :: xs).foldl (fun t x => t.zip keepV x.tm) tm) [] (doneA h b mb es clk))
      else .fail
    | none => .fail
  | _ => .fail
def afterA (rest : T → List ADef → H → Out) (id : Nat) : Out → Out
  | .ext id' tm df h => if id' = id then rest tm df h else .ext id' tm df h
  | .nrm .. => .fail
  | o => o
def leavesA (run rest : T → List ADef → H → Out) (id dst it : Nat) : Nat → T → List ADef → H → List Out
  | 0, _, _, _ => [.fail]
  | n + 1, tm, df, h => match walkA h (tm.get it) with
    | none => [.fail]
    | some k => match k.l with
      | [] => [afterA rest id (run (tm.set overA dst) df h)]
      | l => l.flatMap fun e => match run (tm.set (tokA e) dst) df (k.to e h) with
        | .nrm tm df h => leavesA run rest id dst it n tm df h
        | o => [afterA rest id o]
def manyA (h : H) (it : V) (df : List ADef) : Option Wk := match df with
  | [] => match walkA h it with
    | some k => match k.l with
      | _ :: _ :: _ => some k
      | _ => none
    | none => none
  | _ => none
def den (call : Cl) : IC → T → List ADef → H → Out
  | .skip, tm, df, h => .nrm tm df h
  | .reg ops, tm, df, h => runOps call ops tm df h
  | .dreg ops, tm, df, h => runDraw call ops ops [] 0 tm df h
  | .seq a b, tm, df, h => match den call a tm df h with
    | .nrm tm df h => den call b tm df h
    | o => o
  | .cond c a b, tm, df, h => match (ev tm c).view with
    | .bool true => den call a tm df h
    | .bool false => den call b tm df h
    | _ => .fail
  | .block id b, tm, df, h => match den call b tm df h with
    | .ext id' tm df h => if id' = id then .nrm tm df h else .ext id' tm df h
    | o => o
  | .loop b, tm, df, h => runIter (den call b) maxRounds tm df h
  | .rf site f, tm, df, h => rfA call site (ev tm f) tm df h
  | .amb id dst it ops p a x y, tm, df, h => match den call p tm df h with
    | .nrm tm df h => (match manyA h (tm.get it) df with
      | some k => mergeA tm h k.b k.mb (leavesA (fun tm df h => match runOps call ops tm df h with
          | .nrm tm df h => den call x tm df h
          | o => o) (den call y) id dst it 100 tm [] (frost h k.b k.mb))
      | none => match den call a tm df h with
        | .nrm tm df h => den call y tm df h
        | o => o)
    | o => o
  | .exit id, tm, df, h => .ext id tm df h
  | .ret, tm, df, h => .ret tm df h
  | .bad, _, _, _ => .fail
def finRound (l : Id) (h : H) (st pend : Nat) (r : Bool) : CRes := match (h.blk l).view with
  | .loop _ _ site tm => .ok (vBool r) (h.put l (bLoop st pend site tm))
  | _ => .fail
def roundA (call : Cl) (s : Site) (l : Id) (tm : T) (args : List V) (h : H) : CRes :=
  if args.length = s.params.length then
    match den call s.pre (setArgs tm s.params args) [] (h.setPn (vNo l)) with
    | .nrm tm [] h => match (h.blk l).view with
      | .loop 0 pend site tm0 => match den call s.body tm [] (h.put l (bLoop 1 pend site tm0)) with
        | .nrm _ [] h => finRound l h 0 0 true
        | .ret _ [] h => finRound l h 2 1 false
        | .ext id _ [] h => finRound l h 2 (id + 2) false
        | .pan v _ [] h => .pan v h
        | _ => .fail
      | _ => .fail
    | _ => .fail
  else .fail
def endBody (call : Cl) (fn : IFunc) : Out → CRes
  | .nrm tm df h => unwindA call fn h.pn vUnk df tm h
  | .ret tm df h => unwindA call fn h.pn vUnk df tm h
  | .pan v tm df h => unwindA call fn h.pn v df tm h
  | _ => .fail
def callA (E : Env) : Nat → Cl
  | 0, _, _, _ => .fail
  | n + 1, f, args, h => match f.view with
    | .fn f k l => match E.hook f with
      | some hk => hk h (l.take k ++ args ++ l.drop k)
      | none => match E.funcs f with
        | some fn => endBody (callA E n) fn (den (callA E n) fn.body (initTm .e 0 (l.take k ++ args ++ l.drop k)) [] h)
        | none => .fail
    | .yld l => match (h.blk l).view with
      | .loop _ _ site tm => match E.sites site with
        | some s => roundA (callA E n) s l tm args h
        | none => .fail
      | _ => .fail
    | _ => .fail
end Go.Eng
end
section
namespace Go.Eng
structure CB where
  blk : Nat
  off : Nat
  tot : Nat
abbrev Phi := Id → Option CB
def bytesL (s : ByteArray) : List Nat := s.data.toList.map (·.toNat)
mutual
inductive VR (φ : Phi) : V → Value → Prop
  | unk {v c} (h : v.view = .unk) : VR φ v c
  | int {v a k n} (h : v.view = .int (kTo k) a) (hn : dI a = n) : VR φ v (.int k n)
  | bool {v b} (h : v.view = .bool b) : VR φ v (.bool b)
  | str {v l x s} (h : v.view = .str l x) (hs : s.size = l) (hx : packL (bytesL s) = x) : VR φ v (.string s)
  | nilp {v} (h : v.view = .nilp) : VR φ v (.pointer none)
  | ptr {v b o cb} (h : v.view = .ptr b o) (hb : φ b = some cb) : VR φ v (.pointer (some ⟨cb.blk, cb.off + o, none⟩))
  | nils {v} (h : v.view = .nils) : VR φ v (.slice none 0 0)
  | sl {v b o len cap es ex cb oc cap'} (h : v.view = .sl b o len cap es ex) (hb : φ b = some cb) (hl : len ≤ cap) (hc : cap ≤ cap')
      (hx : ex = true → cap' = cap) (ha : 0 < cap' → oc = cb.off + o ∧ cb.off + o + cap' * es ≤ cb.tot) : VR φ v (.slice (some ⟨cb.blk, oc, none⟩) len cap')
  | nilm {v} (h : v.view = .nilm) : VR φ v (.map none)
  | mp {v b cb} (h : v.view = .mp b) (hb : φ b = some cb) : VR φ v (.map (some cb.blk))
  | fn {v f n l} {first cap : Array Value} (h : v.view = .fn f n l) (h1 : VRL φ (l.take n) first.toList) (h2 : VRL φ (l.drop n) cap.toList) : VR φ v (.func (.func f) first cap)
  | yld {v b cb} (h : v.view = .yld b) (hb : φ b = some cb) : VR φ v (.func (.yield cb.blk) #[] #[])
  | nilf {v} (h : v.view = .nilf) : VR φ v .nilFunc
  | iface {v t x c} (h : v.view = .iface t x) (hx : VR φ x c) : VR φ v (.iface t c)
  | nili {v} (h : v.view = .nili) : VR φ v .nilIface
  | agg {v l} {cs : Array Value} (h : v.view = .agg l) (hl : VRL φ l cs.toList) : VR φ v (.agg cs)
  | tup {v l} {cs : Array Value} (h : v.view = .tup l) (hl : VRL φ l cs.toList) : VR φ v (.tuple cs)
  | undef {v} (h : v.view = .undef) : VR φ v Go.undef
inductive VRL (φ : Phi) : List V → List Value → Prop
  | nil : VRL φ [] []
  | cons {v c vs cs} (h : VR φ v c) (hs : VRL φ vs cs) : VRL φ (v :: vs) (c :: cs)
end
def Phi.le (φ ψ : Phi) : Prop := ∀ b cb, φ b = some cb → ψ b = some cb
theorem Phi.le_refl (φ : Phi) : φ.le φ := fun _ _ h => h
theorem Phi.le_trans {φ ψ χ : Phi} (h : φ.le ψ) (g : ψ.le χ) : φ.le χ := fun b cb e => g b cb (h b cb e)
mutual
theorem VR.mono {φ ψ : Phi} (hle : φ.le ψ) : ∀ {v c}, VR φ v c → VR ψ v c
  | _, _, .unk h => .unk h
  | _, _, .int h hn => .int h hn
  | _, _, .bool h => .bool h
  | _, _, .str h hs hx => .str h hs hx
  | _, _, .nilp h => .nilp h
  | _, _, .ptr h hb => .ptr h (hle _ _ hb)
  | _, _, .nils h => .nils h
  | _, _, .sl h hb hl hc hx ha => .sl h (hle _ _ hb) hl hc hx ha
  | _, _, .nilm h => .nilm h
  | _, _, .mp h hb => .mp h (hle _ _ hb)
  | _, _, .fn h h1 h2 => .fn h (h1.mono hle) (h2.mono hle)
  | _, _, .yld h hb => .yld h (hle _ _ hb)
  | _, _, .nilf h => .nilf h
  | _, _, .iface h hx => .iface h (hx.mono hle)
  | _, _, .nili h => .nili h
  | _, _, .agg h hl => .agg h (hl.mono hle)
  | _, _, .tup h hl => .tup h (hl.mono hle)
  | _, _, .undef h => .undef h
theorem VRL.mono {φ ψ : Phi} (hle : φ.le ψ) : ∀ {v c}, VRL φ v c → VRL ψ v c
  | _, _, .nil => .nil
  | _, _, .cons h hs => .cons (h.mono hle) (hs.mono hle)
end
section lists
variable {φ : Phi}
theorem VRL.length {vs cs} (h : VRL φ vs cs) : vs.length = cs.length := by
  induction vs generalizing cs with
  | nil => cases h; rfl
  | cons v vs ih => cases h with | cons _ hs => simp [ih hs]
theorem VRL.append {vs cs vs' cs'} (h : VRL φ vs cs) (h' : VRL φ vs' cs') : VRL φ (vs ++ vs') (cs ++ cs') := by
  induction vs generalizing cs with
  | nil => cases h; exact h'
  | cons v vs ih => cases h with | cons hv hs => exact .cons hv (ih hs)
theorem VRL.get {vs cs} (h : VRL φ vs cs) (i : Nat) (v : V) (hv : vs[i]? = some v) : ∃ c, cs[i]? = some c ∧ VR φ v c := by
  induction vs generalizing cs i with
  | nil => simp at hv
  | cons x vs ih =>
    cases h with
    | cons hx hs =>
      cases i with
      | zero => simp at hv; subst hv; exact ⟨_, rfl, hx⟩
      | succ i => simpa using ih hs i (by simpa using hv)
theorem VRL.take {vs cs} (h : VRL φ vs cs) (n : Nat) : VRL φ (vs.take n) (cs.take n) := by
  induction vs generalizing cs n with
  | nil => cases h; simp; exact .nil
  | cons x vs ih =>
    cases h with
    | cons hx hs =>
      cases n with
      | zero => simp; exact .nil
      | succ n => exact .cons hx (ih hs n)
theorem VRL.drop {vs cs} (h : VRL φ vs cs) (n : Nat) : VRL φ (vs.drop n) (cs.drop n) := by
  induction vs generalizing cs n with
  | nil => cases h; simp; exact .nil
  | cons x vs ih =>
    cases h with
    | cons hx hs =>
      cases n with
      | zero => exact .cons hx hs
      | succ n => exact ih hs n
theorem VRL.of_forall {vs : List V} {cs : List Value} (hl : vs.length = cs.length) (h : ∀ (i : Nat) (v : V) (c : Value), vs[i]? = some v → cs[i]? = some c → VR φ v c) : VRL φ vs cs := by
  induction vs generalizing cs with
  | nil => cases cs with | nil => exact .nil | cons => simp at hl
  | cons v vs ih =>
    cases cs with
    | nil => simp at hl
    | cons c cs => exact .cons (h 0 v c rfl rfl) (ih (by simpa using hl) fun i v c hv hc => h (i + 1) v c hv hc)
end lists
structure ER (φ : Phi) (e : E) (c : MapEntry) : Prop where
  key : VR φ e.key c.key
  val : VR φ e.val c.val
  born : e.born = c.born
inductive ERL (φ : Phi) : List E → List MapEntry → Prop
  | nil : ERL φ [] []
  | cons {e c es cs} (h : ER φ e c) (hs : ERL φ es cs) : ERL φ (e :: es) (c :: cs)
theorem ER.mono {φ ψ : Phi} (hle : φ.le ψ) {e c} (h : ER φ e c) : ER ψ e c := ⟨h.key.mono hle, h.val.mono hle, h.born⟩
theorem ERL.mono {φ ψ : Phi} (hle : φ.le ψ) {es cs} (h : ERL φ es cs) : ERL ψ es cs := by
  induction h with
  | nil => exact .nil
  | cons h _ ih => exact .cons (h.mono hle) ih
structure TR (φ : Phi) (N : Nat) (t : T) (tmps : Array Value) : Prop where
  size : N ≤ tmps.size
  get : ∀ i, VR φ (t.get i) (tmps.getD i undef)
theorem TR.mono {φ ψ : Phi} (hle : φ.le ψ) {N t tmps} (h : TR φ N t tmps) : TR ψ N t tmps := ⟨h.size, fun i => (h.get i).mono hle⟩
def pendCode : Nat → Option Code
  | 0 => none
  | 1 => some .ret
  | id + 2 => some (.exit id)
def stOf : Nat → LoopState
  | 0 => .ready | 1 => .busy | 2 => .done | _ => .exhausted
structure CSite where
  fn : FuncId
  N : Nat
  params : Array Tmp
  assign : Code
  body : Code
def BR (cs : Nat → Option CSite) (φ : Phi) (w : World) (cb : CB) : BView → Prop
  | .dead => True
  | .cells n c e fz x => ∃ cells lo hi, w.heap[cb.blk]? = some (.cells cells e (lo, hi)) ∧ cells.size = cb.tot ∧ cb.off + n ≤ cb.tot ∧
      (∀ i, i < n → (c.get i).cell = true ∧ ∃ x, cells[cb.off + i]? = some x ∧ VR φ (c.get i) x) ∧
      (n < fz ∨ lo = hi ∨ hi ≤ cb.off + fz) ∧ (x = true → cb.off = 0 ∧ cb.tot = n)
  | .tab n c _ => ∃ cells e fr, w.heap[cb.blk]? = some (.cells cells e fr) ∧ cb.off + n ≤ cells.size ∧
      (∀ i, i < n → (c.get i).cell = true ∧ ∃ x, cells[cb.off + i]? = some x ∧ VR φ (c.get i) x)
  | .map es clk => ∃ ces, w.heap[cb.blk]? = some (.map ces clk) ∧ ERL φ es ces.toList
  | .loop st pend site tm => ∃ l s, w.heap[cb.blk]? = some (.loop l) ∧ cs site = some s ∧ l.state = stOf st ∧ l.pending = pendCode pend ∧ l.fn = s.fn ∧ TR φ s.N tm l.tmps ∧
      l.params = s.params ∧ l.assign = s.assign ∧ l.body = s.body
  | .defs => w.heap[cb.blk]? = some (.deferred (some []))
  | .ice => True
  | .iter m since seen => cb.off = 0 ∧ ∃ om arr, w.heap[cb.blk]? = some (.mapIter om since arr since) ∧ arr.toList = seen ∧ VR φ m (.map om)
def BView.isTab : BView → Bool
  | .tab .. | .ice => true
  | _ => false
def BView.isDead : BView → Bool
  | .dead | .ice => true
  | _ => false
structure HR (cs : Nat → Option CSite) (φ : Phi) (h : H) (w : World) : Prop where
  fresh : ∀ b cb, φ b = some cb → b.nat < h.next
  blks : ∀ b cb, φ b = some cb → BR cs φ w cb (h.blk b).view
  inj : ∀ b b' cb cb', φ b = some cb → φ b' = some cb' → (h.blk b).view.isDead = false → (h.blk b').view.isDead = false → cb.blk = cb'.blk → b = b'
  next : h.next ≤ Id.max
  free : ∀ b : Id, h.next ≤ b.nat → (h.blk b).view.isTab = false
structure Ext (φ : Phi) (h : H) (w : World) (ψ : Phi) (h' : H) (w' : World) : Prop where
  le : φ.le ψ
  size : w.heap.size ≤ w'.heap.size
  tab : ∀ b, (h.blk b).view.isTab = true → h'.blk b = h.blk b
  frame : ∀ B, B < w.heap.size → (∀ b cb, φ b = some cb → cb.blk = B → (h.blk b).view.isTab = true) →
    w'.heap[B]? = w.heap[B]? ∧ ∀ b cb, ψ b = some cb → cb.blk = B → φ b = some cb
  os : w'.os = w.os
  output : w'.output = w.output
  tape : w'.tape = w.tape
  nx : h.next ≤ h'.next
  old : ∀ b : Id, b.nat < h.next → φ b = none → ψ b = none
theorem Ext.refl (φ : Phi) (h : H) (w : World) : Ext φ h w φ h w :=
  ⟨Phi.le_refl _, Nat.le_refl _, fun _ _ => rfl, fun _ _ _ => ⟨rfl, fun _ _ hb _ => hb⟩, rfl, rfl, rfl, Nat.le_refl _, fun _ _ h => h⟩
theorem Ext.trans {φ ψ χ : Phi} {h h' h'' : H} {w w' w'' : World} (a : Ext φ h w ψ h' w') (b : Ext ψ h' w' χ h'' w'') : Ext φ h w χ h'' w'' where
  le := Phi.le_trans a.le b.le
  size := Nat.le_trans a.size b.size
  tab x hx := by rw [b.tab x (by rw [a.tab x hx]; exact hx), a.tab x hx]
  frame B hB hp := by
    obtain ⟨e1, p1⟩ := a.frame B hB hp
    obtain ⟨e2, p2⟩ := b.frame B (Nat.lt_of_lt_of_le hB a.size) fun x cb hx hcb => by
      have := p1 x cb hx hcb
      have ht := hp x cb this hcb
      rw [a.tab x ht]; exact ht
    exact ⟨e2.trans e1, fun x cb hx hcb => p1 x cb (p2 x cb hx hcb) hcb⟩
  os := b.os.trans a.os
  output := b.output.trans a.output
  tape := b.tape.trans a.tape
  nx := Nat.le_trans a.nx b.nx
  old x hx hn := b.old x (Nat.lt_of_lt_of_le hx a.nx) (a.old x hx hn)
def Sim (cs : Nat → Option CSite) (φ : Phi) (h : H) (w : World) (v : V) (h' : H) (c : Value) (w' : World) : Prop :=
  ∃ ψ, HR cs ψ h' w' ∧ Ext φ h w ψ h' w' ∧ VR ψ v c
end Go.Eng
end
section
namespace Go.Eng
variable {P : Program} {cs : Nat → Option CSite} {φ : Phi} {h : H} {w : World}
theorem BR.congr {φ : Phi} {w w' : World} {cb : CB} {v : BView} (e : w'.heap[cb.blk]? = w.heap[cb.blk]?) (hb : BR cs φ w cb v) : BR cs φ w' cb v := by
  cases v <;> simp only [BR, e] at hb ⊢ <;> exact hb
theorem BR.mono {φ ψ : Phi} (hle : φ.le ψ) {w : World} {cb : CB} {v : BView} (hb : BR cs φ w cb v) : BR cs ψ w cb v := by
  cases v with
  | dead => trivial
  | cells n c e fz x =>
    obtain ⟨cells, lo, hi, h1, h2, h3, h4, h5⟩ := hb
    exact ⟨cells, lo, hi, h1, h2, h3, fun i hi => let ⟨a, x, hx, hv⟩ := h4 i hi; ⟨a, x, hx, hv.mono hle⟩, h5⟩
  | tab n c e =>
    obtain ⟨cells, e', fr, h1, h2, h3⟩ := hb
    exact ⟨cells, e', fr, h1, h2, fun i hi => let ⟨a, x, hx, hv⟩ := h3 i hi; ⟨a, x, hx, hv.mono hle⟩⟩
  | map es clk => obtain ⟨ces, h1, h2⟩ := hb; exact ⟨ces, h1, h2.mono hle⟩
  | loop st pend site tm =>
    obtain ⟨l, s, h1, h2, h3, h4, h5, h6, h7⟩ := hb
    exact ⟨l, s, h1, h2, h3, h4, h5, h6.mono hle, h7⟩
  | defs => exact hb
  | ice => trivial
  | iter m since seen => obtain ⟨h0, om, arr, h1, h2, h3⟩ := hb; exact ⟨h0, om, arr, h1, h2, h3.mono hle⟩
theorem BR.lt {φ : Phi} {w : World} {cb : CB} {v : BView} (hb : BR cs φ w cb v) (hd : v.isDead = false) : cb.blk < w.heap.size := by
  have key : ∀ o, w.heap[cb.blk]? = some o → cb.blk < w.heap.size := fun o ho => by
    rcases Nat.lt_or_ge cb.blk w.heap.size with hlt | hge
    · exact hlt
    · rw [Array.getElem?_eq_none hge] at ho; cases ho
  cases v with
  | dead => cases hd
  | cells n c e fz x => obtain ⟨_, _, _, h1, _⟩ := hb; exact key _ h1
  | tab n c e => obtain ⟨_, _, _, h1, _⟩ := hb; exact key _ h1
  | map es clk => obtain ⟨_, h1, _⟩ := hb; exact key _ h1
  | loop st pend site tm => obtain ⟨_, _, h1, _⟩ := hb; exact key _ h1
  | defs => exact key _ hb
  | ice => cases hd
  | iter m since seen => obtain ⟨_, _, _, h1, _⟩ := hb; exact key _ h1
theorem HR.world {w' : World} (hr : HR cs φ h w) (hw : ∀ B, B < w.heap.size → w'.heap[B]? = w.heap[B]?) : HR cs φ h w' where
  fresh := hr.fresh
  blks b cb hb := by
    have := hr.blks b cb hb
    by_cases hd : (h.blk b).view.isDead = true
    · cases hv : (h.blk b).view <;> rw [hv] at hd <;> first | trivial | (simp [BView.isDead] at hd)
    · exact this.congr (hw _ (this.lt (by simpa using hd)))
  inj := hr.inj
  next := hr.next
  free := hr.free
theorem HR.setPn (hr : HR cs φ h w) (p : V) : HR cs φ (h.setPn p) w := ⟨hr.fresh, hr.blks, hr.inj, hr.next, hr.free⟩
theorem Ext.setPn (p : V) : Ext φ h w φ (h.setPn p) w :=
  ⟨Phi.le_refl _, Nat.le_refl _, fun _ _ => rfl, fun _ _ _ => ⟨rfl, fun _ _ hb _ => hb⟩, rfl, rfl, rfl, Nat.le_refl _, fun _ _ h => h⟩
theorem HR.put {w' : World} {b : Id} {cb : CB} {x : B} (hr : HR cs φ h w) (hb : φ b = some cb) (hl : (h.blk b).view.isDead = false)
    (hw : ∀ B, B ≠ cb.blk → w'.heap[B]? = w.heap[B]?) (hx : BR cs φ w' cb x.view) : HR cs φ (h.put b x) w' where
  fresh := hr.fresh
  blks b' cb' hb' := by
    rw [H.blk_put]
    by_cases e : b' = b
    · subst e; rw [hb] at hb'; cases hb'; rw [if_pos rfl]; exact hx
    · rw [if_neg e]
      have := hr.blks b' cb' hb'
      by_cases hd : (h.blk b').view.isDead = true
      · cases hv : (h.blk b').view <;> rw [hv] at hd <;> first | trivial | (simp [BView.isDead] at hd)
      · exact this.congr (hw _ fun hc => e (hr.inj b' b cb' cb hb' hb (by simpa using hd) hl hc))
  inj b1 b2 c1 c2 h1 h2 d1 d2 hc := by
    rw [H.blk_put] at d1 d2
    by_cases e1 : b1 = b
    · by_cases e2 : b2 = b
      · rw [e1, e2]
      · rw [if_neg e2] at d2
        subst e1
        exact hr.inj b1 b2 c1 c2 h1 h2 hl d2 hc
    · rw [if_neg e1] at d1
      by_cases e2 : b2 = b
      · subst e2
        exact hr.inj b1 b2 c1 c2 h1 h2 d1 hl hc
      · rw [if_neg e2] at d2
        exact hr.inj b1 b2 c1 c2 h1 h2 d1 d2 hc
  next := hr.next
  free b' hb' := by
    have h1 : h.next ≤ b'.nat := hb'
    have := hr.fresh _ _ hb
    rw [H.blk_put, if_neg (fun e => by rw [e] at h1; omega)]
    exact hr.free _ h1
theorem Ext.put {w' : World} {b : Id} {cb : CB} {x : B} (hb : φ b = some cb) (ht : (h.blk b).view.isTab = false)
    (hw : ∀ B, B ≠ cb.blk → w'.heap[B]? = w.heap[B]?) (hs : w'.heap.size = w.heap.size) (ho : w'.os = w.os) (hp : w'.output = w.output) (hta : w'.tape = w.tape) :
    Ext φ h w φ (h.put b x) w' where
  le := Phi.le_refl _
  size := by rw [hs]; exact Nat.le_refl _
  tab b' h' := by
    rw [H.blk_put]
    by_cases e : b' = b
    · subst e; rw [ht] at h'; cases h'
    · rw [if_neg e]
  frame B hB hn := ⟨hw B (fun e => by have := hn b cb hb e.symm; rw [ht] at this; cases this), fun _ _ hx _ => hx⟩
  os := ho
  output := hp
  tape := hta
  nx := Nat.le_refl _
  old _ _ hn := hn
theorem HR.kill {b : Id} (hr : HR cs φ h w) : HR cs φ (h.put b bDead) w where
  fresh := hr.fresh
  blks b' cb' hb' := by
    rw [H.blk_put]
    by_cases e : b' = b
    · rw [if_pos e]; trivial
    · rw [if_neg e]; exact hr.blks b' cb' hb'
  inj b1 b2 c1 c2 h1 h2 d1 d2 hc := by
    rw [H.blk_put] at d1 d2
    by_cases e1 : b1 = b
    · rw [if_pos e1] at d1; cases d1
    · rw [if_neg e1] at d1
      by_cases e2 : b2 = b
      · rw [if_pos e2] at d2; cases d2
      · rw [if_neg e2] at d2
        exact hr.inj b1 b2 c1 c2 h1 h2 d1 d2 hc
  next := hr.next
  free b' hb' := by
    rw [H.blk_put]
    split
    · rfl
    · exact hr.free _ hb'
theorem Ext.kill {b : Id} (ht : (h.blk b).view.isTab = false) : Ext φ h w φ (h.put b bDead) w where
  le := Phi.le_refl _
  size := Nat.le_refl _
  tab b' h' := by
    rw [H.blk_put]
    by_cases e : b' = b
    · subst e; rw [ht] at h'; cases h'
    · rw [if_neg e]
  frame B _ _ := ⟨rfl, fun _ _ hx _ => hx⟩
  os := rfl
  output := rfl
  tape := rfl
  nx := Nat.le_refl _
  old _ _ hn := hn
def Phi.add (φ : Phi) (b : Id) (cb : CB) : Phi := fun x => if x = b then some cb else φ x
theorem Phi.add_same (φ : Phi) (b : Id) (cb : CB) : φ.add b cb b = some cb := by simp [Phi.add]
theorem Phi.le_add {b : Id} (hb : φ b = none) (cb : CB) : φ.le (φ.add b cb) := by
  intro x c hx
  have : x ≠ b := fun e => by rw [e, hb] at hx; cases hx
  simp [Phi.add, this, hx]
theorem H.room_lt (hr : h.room = true) : h.next < Id.max := by
  unfold H.room at hr; have := Nat.le_of_ble_eq_true hr; omega
theorem HR.none (hr : HR cs φ h w) (hm : h.room = true) : φ (Id.of h.next) = none := by
  cases e : φ (Id.of h.next) with
  | none => rfl
  | some cb =>
    have := hr.fresh _ _ e
    rw [Id.nat_of _ (H.room_lt hm)] at this
    omega
theorem HR.add {cb : CB} {x : B} (hr : HR cs φ h w) (hm : h.room = true)
    (hf : ∀ b cb', φ b = some cb' → (h.blk b).view.isDead = false → cb'.blk ≠ cb.blk)
    (hx : BR cs (φ.add (.of h.next) cb) w cb x.view) : HR cs (φ.add (.of h.next) cb) (h.new x) w where
  fresh b cb' hb := by
    show b.nat < h.next + 1
    unfold Phi.add at hb
    split at hb
    · rename_i e; rw [e, Id.nat_of _ (H.room_lt hm)]; omega
    · have := hr.fresh _ _ hb; omega
  blks b cb' hb := by
    rw [H.blk_new]
    unfold Phi.add at hb
    split at hb
    · rename_i e; cases hb; rw [if_pos e]; exact hx
    · rename_i e; rw [if_neg e]; exact (hr.blks b cb' hb).mono (Phi.le_add (hr.none hm) _)
  inj b1 b2 c1 c2 h1 h2 d1 d2 hc := by
    rw [H.blk_new] at d1 d2
    unfold Phi.add at h1 h2
    by_cases e1 : b1 = .of h.next
    · by_cases e2 : b2 = .of h.next
      · rw [e1, e2]
      · rw [if_neg e2] at d2 h2
        rw [if_pos e1] at h1
        cases h1
        exact absurd hc.symm (hf b2 c2 h2 d2)
    · rw [if_neg e1] at d1 h1
      by_cases e2 : b2 = .of h.next
      · rw [if_pos e2] at h2
        cases h2
        exact absurd hc (hf b1 c1 h1 d1)
      · rw [if_neg e2] at d2 h2
        exact hr.inj b1 b2 c1 c2 h1 h2 d1 d2 hc
  next := H.room_lt hm
  free b' hb' := by
    have h1 : h.next + 1 ≤ b'.nat := hb'
    rw [H.blk_new, if_neg (fun e => by rw [e, Id.nat_of _ (H.room_lt hm)] at h1; omega)]
    exact hr.free _ (by omega)
theorem getElem?_push_old {α : Type} (a : Array α) (x : α) (i : Nat) (hi : i < a.size) : (a.push x)[i]? = a[i]? := by
  rw [Array.getElem?_push]; simp [Nat.ne_of_lt hi]
theorem getElem?_push_new {α : Type} (a : Array α) (x : α) : (a.push x)[a.size]? = some x := by simp
def pushed (w : World) (o : Obj) : World := { w with heap := w.heap.push o }
theorem HR.pushed (hr : HR cs φ h w) (o : Obj) : HR cs φ h (pushed w o) := hr.world fun B hB => getElem?_push_old _ _ _ hB
theorem HR.new {o : Obj} {x : B} {tot : Nat} (hr : HR cs φ h w) (hm : h.room = true)
    (hx : BR cs (φ.add (.of h.next) ⟨w.heap.size, 0, tot⟩) (Go.Eng.pushed w o) ⟨w.heap.size, 0, tot⟩ x.view) :
    HR cs (φ.add (.of h.next) ⟨w.heap.size, 0, tot⟩) (h.new x) (Go.Eng.pushed w o) :=
  (hr.pushed o).add hm (fun b cb' hb hd => Nat.ne_of_lt ((hr.blks b cb' hb).lt hd)) hx
theorem Ext.new {o : Obj} {x : B} {tot : Nat} (hr : HR cs φ h w) (hm : h.room = true) :
    Ext φ h w (φ.add (.of h.next) ⟨w.heap.size, 0, tot⟩) (h.new x) (Go.Eng.pushed w o) where
  le := Phi.le_add (hr.none hm) _
  size := by simp [Go.Eng.pushed]
  tab b hb := by
    rw [H.blk_new]
    by_cases e : b = .of h.next
    ·
      subst e
      rw [hr.free _ (by rw [Id.nat_of _ (H.room_lt hm)]; exact Nat.le_refl _)] at hb
      cases hb
    · rw [if_neg e]
  frame B hB hn := by
    refine ⟨getElem?_push_old _ _ _ hB, fun b cb hb hcb => ?_⟩
    unfold Phi.add at hb
    split at hb
    · cases hb; simp at hcb; omega
    · exact hb
  os := rfl
  output := rfl
  tape := rfl
  nx := Nat.le_succ _
  old b hb hn := by
    unfold Phi.add
    split
    · rename_i e
      have : b.nat = h.next := by rw [e]; exact Id.nat_of _ (H.room_lt hm)
      omega
    · exact hn
end Go.Eng
end
section
namespace Go.Eng
variable {P : Program} {cs : Nat → Option CSite} {φ : Phi} {h : H} {w : World}
theorem loadCells_length (c : Cs) : ∀ (n o : Nat), (loadCells c o n).length = n
  | 0, _ => rfl
  | n + 1, o => by simp [loadCells, loadCells_length c n]
theorem loadCells_get (c : Cs) : ∀ (n o j : Nat), j < n → (loadCells c o n)[j]? = some (c.get (o + j))
  | 0, _, _, hj => by omega
  | n + 1, o, 0, _ => by simp [loadCells]
  | n + 1, o, j + 1, hj => by
    have := loadCells_get c n (o + 1) j (by omega)
    simp only [loadCells, List.getElem?_cons_succ, this]
    congr 2; omega
def Flat (l : List V) : Prop := ∀ v ∈ l, v.cell = true
theorem flat_Flat {l : List V} (hf : flat l = true) : Flat l := fun v hv => (List.all_eq_true.1 hf) v hv
theorem V.one_of {v : V} {c : Value} (hv : VR φ v c) (h0 : v.cell = true) : c.oneCell' = true := by
  cases hv <;> first
    | rfl
    | (rename_i hview; simp [V.cell, hview] at h0; done)
    | (rename_i hview _; simp [V.cell, hview] at h0; done)
    | (rename_i _ hview; simp [V.cell, hview] at h0; done)
theorem VRL.one {vs xs} (hv : VRL φ vs xs) (h0 : Flat vs) : ∀ x ∈ xs, x.oneCell' = true := by
  induction vs generalizing xs with
  | nil => cases hv; simp
  | cons v vs ih =>
    cases hv with
    | cons hx hs =>
      intro y hy
      cases hy with
      | head => exact V.one_of hx (h0 _ (by simp))
      | tail _ hy => exact ih hs (fun v hv => h0 v (List.mem_cons_of_mem _ hv)) y hy
theorem cell_of {w : World} {B o : Nat} {cells : Array Value} {e : TypeId} {fr : Nat × Nat} (hc : w.heap[B]? = some (.cells cells e fr)) :
    w.cell? ⟨B, o, none⟩ = cells[o]? := by
  simp [World.cell?, hc]
theorem frozen_of {w : World} {B o : Nat} {cells : Array Value} {e : TypeId} {lo hi : Nat} (hc : w.heap[B]? = some (.cells cells e (lo, hi))) :
    w.frozen? ⟨B, o, none⟩ = (decide (lo ≤ o) && decide (o < hi)) := by
  simp [World.frozen?, hc]
theorem rdCells_run (hr : HR cs φ h w) {b : Id} {cb : CB} (hb : φ b = some cb) {o n : Nat} {l : List V} (hl : rdCells h b o n = some l) :
    l.length = n ∧ ∃ xs : List Value, VRL φ l xs ∧ xs.length = n ∧ (∀ j v, xs[j]? = some v → w.cell? ⟨cb.blk, cb.off + o + j, none⟩ = some v) ∧ Flat l := by
  have hB := hr.blks b cb hb
  have key : ∀ (sz : Nat) (c : Cs) (cells : Array Value) (e : TypeId) (fr : Nat × Nat), w.heap[cb.blk]? = some (.cells cells e fr) → o + n ≤ sz →
      (∀ i, i < sz → (c.get i).cell = true ∧ ∃ x, cells[cb.off + i]? = some x ∧ VR φ (c.get i) x) → l = loadCells c o n →
      l.length = n ∧ ∃ xs : List Value, VRL φ l xs ∧ xs.length = n ∧ (∀ j v, xs[j]? = some v → w.cell? ⟨cb.blk, cb.off + o + j, none⟩ = some v) ∧ Flat l := by
    intro sz c cells e fr hc hsz hv hl
    subst hl
    refine ⟨loadCells_length _ _ _, (List.range n).map (fun j => cells.getD (cb.off + o + j) undef), ?_, by simp, ?_, ?_⟩
    · refine VRL.of_forall (by simp [loadCells_length]) ?_
      intro i v x hvi hxi
      have hi : i < n := by
        rcases Nat.lt_or_ge i n with hlt | hge
        · exact hlt
        · rw [List.getElem?_eq_none (by simpa [loadCells_length] using hge)] at hvi; cases hvi
      rw [loadCells_get _ _ _ _ hi] at hvi
      cases hvi
      obtain ⟨_, y, hy, hvr⟩ := hv (o + i) (by omega)
      have : x = y := by
        simp [hi] at hxi
        rw [← hxi, show cb.off + o + i = cb.off + (o + i) by omega, hy]
        rfl
      rw [this]; exact hvr
    · intro j v hjv
      have hj : j < n := by
        rcases Nat.lt_or_ge j n with hlt | hge
        · exact hlt
        · rw [List.getElem?_eq_none (by simpa using hge)] at hjv; cases hjv
      obtain ⟨_, y, hy, _⟩ := hv (o + j) (by omega)
      rw [cell_of hc]
      simp [hj] at hjv
      rw [← hjv, show cb.off + o + j = cb.off + (o + j) by omega, hy]
      rfl
    · intro v hvm
      obtain ⟨i, hi⟩ := List.getElem?_of_mem hvm
      have hin : i < n := by
        rcases Nat.lt_or_ge i n with hlt | hge
        · exact hlt
        · rw [List.getElem?_eq_none (by simpa [loadCells_length] using hge)] at hi; cases hi
      rw [loadCells_get _ _ _ _ hin] at hi
      cases hi
      exact (hv (o + i) (by omega)).1
  unfold rdCells at hl
  split at hl
  · rename_i sz c e fz x hview
    rw [hview] at hB
    obtain ⟨cells, lo, hi, h1, h2, h3, h4, h5, h6⟩ := hB
    split at hl
    · cases hl
      exact key sz c cells e _ h1 (by omega) h4 rfl
    · cases hl
  · rename_i sz c e hview
    rw [hview] at hB
    obtain ⟨cells, e', fr, h1, h2, h3⟩ := hB
    split at hl
    · cases hl
      exact key sz c cells e' _ h1 (by omega) h3 rfl
    · cases hl
  · cases hl
theorem setCells_get : ∀ (vs : List V) (c : Cs) (o j : Nat), o + vs.length ≤ 4164 →
    (setCells c o vs).get j = if o ≤ j ∧ j < o + vs.length then vs.getD (j - o) vUnk else c.get j
  | [], c, o, j, _ => by simp [setCells]; omega
  | v :: vs, c, o, j, hl => by
    simp only [List.length_cons] at hl ⊢
    rw [setCells, setCells_get vs _ _ _ (by omega), Cs.get_set]
    by_cases h1 : o + 1 ≤ j ∧ j < o + 1 + vs.length
    · rw [if_pos h1, if_pos (by omega)]
      rw [show j - o = (j - (o + 1)) + 1 by omega]
      simp
    · rw [if_neg h1]
      by_cases h2 : j = o
      · subst h2
        simp
        omega
      · rw [if_neg h2, if_neg (by omega)]
theorem add_addr (B o i : Nat) : (⟨B, o, none⟩ : Addr).add i = ⟨B, o + i, none⟩ := by
  unfold Addr.add; split <;> simp_all
theorem setCell_heap {w : World} {B o : Nat} {cells : Array Value} {e : TypeId} {fr : Nat × Nat} (hc : w.heap[B]? = some (.cells cells e fr)) (v : Value) :
    (w.setCell ⟨B, o, none⟩ v) = { w with heap := w.heap.setIfInBounds B (.cells (cells.setIfInBounds o v) e fr) } := by
  have hlt : B < w.heap.size := by
    rcases Nat.lt_or_ge B w.heap.size with hlt | hge
    · exact hlt
    · rw [Array.getElem?_eq_none hge] at hc; cases hc
  have hget : w.heap[B] = .cells cells e fr := by
    rw [Array.getElem?_eq_getElem hlt] at hc; exact Option.some.inj hc
  simp only [World.setCell]
  congr 1
  apply Array.ext (by simp)
  intro i hi1 hi2
  by_cases e1 : B = i
  · subst e1; simp [Array.getElem_modify, hget]
  · simp only [Array.getElem_modify, e1, if_false]
    exact (Array.getElem_setIfInBounds_ne (by simpa using hi1) e1).symm
theorem run_storeCells_row (xs : List Value) : ∀ (i : Nat) (w : World) (B o : Nat) (cells : Array Value) (e : TypeId) (lo hi : Nat),
    w.heap[B]? = some (.cells cells e (lo, hi)) → o + i + xs.length ≤ cells.size → (∀ v ∈ xs, v.oneCell' = true) →
    (∀ j, j < xs.length → ¬ (lo ≤ o + i + j ∧ o + i + j < hi)) →
    ∃ (w' : World) (cells' : Array Value), (storeCells ⟨B, o, none⟩ xs i).run P w = .ok () w' ∧ w'.heap[B]? = some (.cells cells' e (lo, hi)) ∧ cells'.size = cells.size ∧
      (∀ j, cells'[j]? = if o + i ≤ j ∧ j < o + i + xs.length then xs[j - (o + i)]? else cells[j]?) ∧
      (∀ B', B' ≠ B → w'.heap[B']? = w.heap[B']?) ∧ w'.heap.size = w.heap.size ∧ w'.os = w.os ∧ w'.output = w.output ∧ w'.tape = w.tape ∧ w'.drawn = w.drawn := by
  induction xs with
  | nil =>
    intro i w B o cells e lo hi hc _ _ _
    refine ⟨w, cells, rfl, hc, rfl, fun j => ?_, fun _ _ => rfl, rfl, rfl, rfl, rfl, rfl⟩
    rw [if_neg (by simp)]
  | cons v xs ih =>
    intro i w B o cells e lo hi hc hs h1 hf
    simp only [List.length_cons] at hs hf
    have hcell : w.cell? ⟨B, o + i, none⟩ = some cells[o + i] := by
      rw [cell_of hc, Array.getElem?_eq_getElem (by omega)]
    have hfr : w.frozen? ⟨B, o + i, none⟩ = false := by
      rw [frozen_of hc]
      have := hf 0 (by omega)
      simp only [Nat.add_zero] at this
      simp; omega
    have hst : (store ((⟨B, o, none⟩ : Addr).add i) v).run P w = .ok () (w.setCell ⟨B, o + i, none⟩ v) := by
      rw [add_addr, run_store P w _ v _ (h1 v (by simp)), hcell]
      simp [hfr]
    have hlt : B < w.heap.size := by
      rcases Nat.lt_or_ge B w.heap.size with hlt | hge
      · exact hlt
      · rw [Array.getElem?_eq_none hge] at hc; cases hc
    have hw1 := setCell_heap (o := o + i) hc v
    have hc1 : (w.setCell ⟨B, o + i, none⟩ v).heap[B]? = some (.cells (cells.setIfInBounds (o + i) v) e (lo, hi)) := by
      rw [hw1]; simp [hlt]
    obtain ⟨w', cells', hrun, hc', hsz, hget, hoth, hsize, hos, hout, htape, hdr⟩ := ih (i + 1) (w.setCell ⟨B, o + i, none⟩ v) B o (cells.setIfInBounds (o + i) v) e lo hi hc1
      (by simp only [Array.size_setIfInBounds]; omega) (fun x hx => h1 x (List.mem_cons_of_mem _ hx)) (fun j hj => by have := hf (j + 1) (by omega); rwa [show o + (i + 1) + j = o + i + (j + 1) by omega])
    refine ⟨w', cells', ?_, hc', by simpa using hsz, fun j => ?_, fun B' hB' => ?_, ?_, ?_, ?_, ?_, ?_⟩
    · simp only [storeCells, Sem.run_bind, hst, Result.andThen, hrun]
    · rw [hget j]
      simp only [List.length_cons]
      by_cases hj1 : o + (i + 1) ≤ j ∧ j < o + (i + 1) + xs.length
      · rw [if_pos hj1, if_pos (by omega), show j - (o + i) = (j - (o + (i + 1))) + 1 by omega]
        simp
      · rw [if_neg hj1]
        by_cases hj2 : j = o + i
        · subst hj2
          rw [if_pos (by omega), Array.getElem?_setIfInBounds_self, if_pos (by omega)]
          simp
        · rw [if_neg (by omega), Array.getElem?_setIfInBounds_ne (by omega)]
    · rw [hoth B' hB', hw1]
      simp only
      rw [Array.getElem?_setIfInBounds_ne (Ne.symm hB')]
    · rw [hsize, hw1]; simp
    · rw [hos]; rfl
    · rw [hout]; rfl
    · rw [htape]; rfl
    · rw [hdr]; rfl
end Go.Eng
end
section
namespace Go.Eng
variable {P : Program} {cs : Nat → Option CSite} {φ : Phi} {h : H} {w : World}
theorem storeA_run {b : Id} {cb : CB} {o : Nat} {vs : List V} {h' : H} {xs : List Value} (hr : HR cs φ h w) (hb : φ b = some cb) (hs : storeA h b o vs = some h') (hv : VRL φ vs xs) :
    ∃ w', (storeCells ⟨cb.blk, cb.off + o, none⟩ xs).run P w = .ok () w' ∧ HR cs φ h' w' ∧ Ext φ h w φ h' w' := by
  unfold storeA at hs
  split at hs
  · rename_i sz c e fz x hview
    split at hs
    · rename_i hc
      obtain ⟨hfz, hlen, hsz, hfl⟩ := hc
      cases hs
      have hB := hr.blks b cb hb
      rw [hview] at hB
      obtain ⟨cells, lo, hi, h1, h2, h3, h4, h5, h6⟩ := hB
      have hlen' := hv.length
      obtain ⟨w', cells', hrun, hc', hsz', hget, hoth, hsize, hos, hout, htape, hdr⟩ := run_storeCells_row (P := P) xs 0 w cb.blk (cb.off + o) cells e lo hi h1 (by omega) (hv.one (flat_Flat hfl))
        (fun j hj => by have : xs.length = vs.length := hlen'.symm; omega)
      refine ⟨w', hrun, hr.put hb (by rw [hview]; rfl) hoth ?_, Ext.put hb (by rw [hview]; rfl) hoth hsize hos hout htape⟩
      rw [bview_cells]
      refine ⟨cells', lo, hi, hc', by omega, h3, fun i hi' => ?_, h5, h6⟩
      show ((setCells c o vs).get i).cell = true ∧ ∃ x, cells'[cb.off + i]? = some x ∧ VR φ ((setCells c o vs).get i) x
      replace hi' : i < sz := hi'
      rw [setCells_get _ _ _ _ (by omega), hget]
      by_cases hin : o ≤ i ∧ i < o + vs.length
      · rw [if_pos hin, if_pos (by omega)]
        have hvi : vs[i - o]? = some (vs.getD (i - o) vUnk) := by
          rw [List.getD_eq_getElem?_getD, List.getElem?_eq_getElem (by omega)]; rfl
        obtain ⟨x, hx, hxr⟩ := hv.get _ _ hvi
        exact ⟨flat_Flat hfl _ (List.mem_of_getElem? hvi), x, by rw [show cb.off + i - (cb.off + o + 0) = i - o by omega]; exact hx, hxr⟩
      · rw [if_neg hin, if_neg (by omega)]
        exact h4 i hi'
    · cases hs
  · cases hs
theorem getElem?_append_list {α : Type} (xs rest : List α) (i : Nat) (x : α) (hx : xs[i]? = some x) : (xs ++ rest).toArray[i]? = some x := by
  have hi : i < xs.length := by
    rcases Nat.lt_or_ge i xs.length with hlt | hge
    · exact hlt
    · rw [List.getElem?_eq_none hge] at hx; cases hx
  simp [List.getElem?_append_left hi, hx]
theorem new_runC {e : TypeId} {vs : List V} {xs rest : List Value} {fz : Nat} {x : Bool} {cc : Cs} (hcc : ∀ i, i < vs.length → cc.get i = vs.getD i vUnk) (hx0 : x = true → rest = []) (hr : HR cs φ h w) (hm : h.room = true) (hf : Flat vs) (hv : VRL φ vs xs) :
    HR cs (φ.add (.of h.next) ⟨w.heap.size, 0, xs.length + rest.length⟩) (h.new (bCells vs.length cc e fz x)) (pushed w (.cells (xs ++ rest).toArray e)) ∧
    Ext φ h w (φ.add (.of h.next) ⟨w.heap.size, 0, xs.length + rest.length⟩) (h.new (bCells vs.length cc e fz x)) (pushed w (.cells (xs ++ rest).toArray e)) := by
  refine ⟨hr.new hm ?_, Ext.new hr hm⟩
  rw [bview_cells]
  have hlen := hv.length
  refine ⟨(xs ++ rest).toArray, 0, 0, getElem?_push_new _ _, by simp, (by show 0 + vs.length ≤ xs.length + rest.length; omega), fun i hi => ?_, .inr (.inl rfl), fun hx => ⟨rfl, by rw [hx0 hx, hlen]; rfl⟩⟩
  replace hi : i < vs.length := hi
  have hvi : vs[i]? = some (vs.getD i vUnk) := by
    rw [List.getD_eq_getElem?_getD, List.getElem?_eq_getElem hi]; rfl
  show (cc.get i).cell = true ∧ ∃ x, (xs ++ rest).toArray[0 + i]? = some x ∧ VR _ (cc.get i) x
  obtain ⟨x, hx, hxr⟩ := hv.get _ _ hvi
  rw [hcc i hi]
  refine ⟨hf _ (List.mem_of_getElem? hvi), x, ?_, hxr.mono (Phi.le_add (hr.none hm) _)⟩
  rw [Nat.zero_add]
  exact getElem?_append_list _ _ _ _ hx
theorem mkCells_get {vs : List V} (hl : vs.length ≤ 4164) (i : Nat) (hi : i < vs.length) : (mkCells vs).get i = vs.getD i vUnk := by
  unfold mkCells
  rw [setCells_get _ _ _ _ (by omega), if_pos (by omega)]
  rfl
theorem appC_get {c : Cs} {o k : Nat} {new : List V} (hl : k + new.length ≤ 4164) (i : Nat) (hi : i < (loadCells c o k ++ new).length) : (appC c o k new).get i = (loadCells c o k ++ new).getD i vUnk := by
  have hlen : (loadCells c o k ++ new).length = k + new.length := by rw [List.length_append, loadCells_length]
  unfold appC
  split
  · rename_i ho
    subst ho
    rw [setCells_get _ _ _ _ hl]
    rw [hlen] at hi
    by_cases h1 : i < k
    · rw [if_neg (by omega), List.getD_eq_getElem?_getD, List.getElem?_append_left (by rw [loadCells_length]; exact h1), loadCells_get _ _ _ _ h1, Nat.zero_add]
      rfl
    · rw [if_pos (by omega), List.getD_eq_getElem?_getD, List.getD_eq_getElem?_getD, List.getElem?_append_right (by rw [loadCells_length]; omega), loadCells_length]
  · exact mkCells_get (by omega) i hi
theorem new_run {e : TypeId} {vs : List V} {xs rest : List Value} {fz : Nat} {x : Bool} (hx0 : x = true → rest = []) (hr : HR cs φ h w) (hm : h.room = true) (hl : vs.length ≤ 4164) (hf : Flat vs) (hv : VRL φ vs xs) :
    HR cs (φ.add (.of h.next) ⟨w.heap.size, 0, xs.length + rest.length⟩) (h.new (bCells vs.length (mkCells vs) e fz x)) (pushed w (.cells (xs ++ rest).toArray e)) ∧
    Ext φ h w (φ.add (.of h.next) ⟨w.heap.size, 0, xs.length + rest.length⟩) (h.new (bCells vs.length (mkCells vs) e fz x)) (pushed w (.cells (xs ++ rest).toArray e)) :=
  new_runC (mkCells_get hl) hx0 hr hm hf hv
theorem newA_run {e : TypeId} {vs : List V} {xs : List Value} (rest : List Value) {k : Id → V} {v : V} {h' : H} {x : Bool} (hx0 : x = true → rest = []) (hr : HR cs φ h w) (hn : newA h e x vs k = .val v h') (hv : VRL φ vs xs) :
    v = k (.of h.next) ∧ HR cs (φ.add (.of h.next) ⟨w.heap.size, 0, xs.length + rest.length⟩) h' (pushed w (.cells (xs ++ rest).toArray e)) ∧
    Ext φ h w (φ.add (.of h.next) ⟨w.heap.size, 0, xs.length + rest.length⟩) h' (pushed w (.cells (xs ++ rest).toArray e)) := by
  unfold newA at hn
  split at hn
  · rename_i hc
    cases hn
    exact ⟨rfl, new_run hx0 hr hc.1 hc.2.1 (flat_Flat hc.2.2) hv⟩
  · cases hn
structure TyI where
  desc : TypeDesc
  size : Nat
  bytes : Nat
  zero : Option V
def TyI.agg (t : TyI) : Bool := match t.desc with
  | .struct _ | .array _ _ => true
  | _ => false
structure TyOK (P : Program) (t : TypeId) (i : TyI) : Prop where
  desc : P.underlying t = some i.desc
  info : ∃ d, P.info? t = some d ∧ d.size = i.size ∧ d.bytes = i.bytes ∧ ∀ z, i.zero = some z → ∃ c, d.zero = some c ∧ c.cells.size = i.size ∧ z.view ≠ .unk ∧ ∀ φ, VR φ z c
theorem run_underlying {t : TypeId} {i : TyI} (ht : TyOK P t i) : (underlying t).run P w = .ok i.desc w := by
  simp [underlying, ht.desc]
theorem run_sizeOf {t : TypeId} {i : TyI} (ht : TyOK P t i) : (sizeOf t).run P w = .ok i.size w := by
  obtain ⟨d, h1, h2, _⟩ := ht.info
  simp [sizeOf, typeInfo, h1, h2]
theorem run_bytes {t : TypeId} {i : TyI} (ht : TyOK P t i) : ∃ d, (typeInfo t).run P w = .ok d w ∧ d.bytes = i.bytes := by
  obtain ⟨d, h1, _, h2, _⟩ := ht.info
  exact ⟨d, by simp [typeInfo, h1], h2⟩
theorem run_isAgg {t : TypeId} {i : TyI} (ht : TyOK P t i) : (isAgg t).run P w = .ok i.agg w := by
  simp only [isAgg, Sem.run_bind, run_underlying ht, Result.andThen, TyI.agg]
  cases i.desc <;> rfl
theorem run_zeroValues {t : TypeId} {i : TyI} (ht : TyOK P t i) {z : V} (hz : i.zero = some z) :
    ∃ c, (∀ w, (zeroValue t).run P w = .ok c w) ∧ c.cells.size = i.size ∧ z.view ≠ .unk ∧ ∀ φ, VR φ z c := by
  obtain ⟨d, h1, _, _, h3⟩ := ht.info
  obtain ⟨c, hc, hs, hu, hv⟩ := h3 z hz
  exact ⟨c, fun w => by simp [zeroValue, typeInfo, h1, hc], hs, hu, hv⟩
theorem run_zeroValue {t : TypeId} {i : TyI} (ht : TyOK P t i) {z : V} (hz : i.zero = some z) : ∃ c, (zeroValue t).run P w = .ok c w ∧ ∀ φ, VR φ z c := by
  obtain ⟨c, h1, _, _, h2⟩ := run_zeroValues ht hz
  exact ⟨c, h1 w, h2⟩
theorem cellsOf_run {v : V} {c : Value} (hv : VR φ v c) (hk : v.view ≠ .unk) : VRL φ (cellsOf v) c.cells.toList := by
  have h0 := hv
  cases hv with
  | agg h hl => simp only [cellsOf, h, Value.cells]; exact hl
  | unk h => exact absurd h hk
  | _ h => simp only [cellsOf, h, Value.cells]; exact .cons h0 .nil
end Go.Eng
end
section
namespace Go.Eng
variable {P : Program} {cs : Nat → Option CSite} {φ : Phi} {h : H} {w : World}
theorem VR.ptr_inv {v : V} {c : Value} {b : Id} {o : Nat} (hv : VR φ v c) (hw : v.view = .ptr b o) : ∃ cb, φ b = some cb ∧ c = .pointer (some ⟨cb.blk, cb.off + o, none⟩) := by
  cases hv with
  | ptr h1 hb => rw [hw] at h1; cases h1; exact ⟨_, hb, rfl⟩
  | _ h1 => rw [hw] at h1; cases h1
theorem VR.int_inv {v : V} {c : Value} {k a : Nat} (hv : VR φ v c) (hw : v.view = .int k a) : ∃ κ n, k = kTo κ ∧ dI a = n ∧ c = .int κ n := by
  cases hv with
  | int h1 h2 => rw [hw] at h1; cases h1; exact ⟨_, _, rfl, h2, rfl⟩
  | _ h1 => rw [hw] at h1; cases h1
theorem VR.undef_inv {v : V} {c : Value} (hv : VR φ v c) (hw : v.view = .undef) : c = Go.undef := by
  cases hv with
  | undef h => rfl
  | _ h1 => rw [hw] at h1; cases h1
theorem VR.bool_inv {v : V} {c : Value} {b : Bool} (hv : VR φ v c) (hw : v.view = .bool b) : c = .bool b := by
  cases hv with
  | bool h1 => rw [hw] at h1; cases h1; rfl
  | _ h1 => rw [hw] at h1; cases h1
theorem VR.str_inv {v : V} {c : Value} {l x : Nat} (hv : VR φ v c) (hw : v.view = .str l x) : ∃ s : ByteArray, c = .string s ∧ s.size = l ∧ packL (bytesL s) = x := by
  cases hv with
  | str h1 h2 h3 => rw [hw] at h1; cases h1; exact ⟨_, rfl, h2, h3⟩
  | _ h1 => rw [hw] at h1; cases h1
theorem VR.nilp_inv {v : V} {c : Value} (hv : VR φ v c) (hw : v.view = .nilp) : c = .pointer none := by
  cases hv with
  | nilp h1 => rfl
  | _ h1 => rw [hw] at h1; cases h1
theorem VR.nils_inv {v : V} {c : Value} (hv : VR φ v c) (hw : v.view = .nils) : c = .slice none 0 0 := by
  cases hv with
  | nils h1 => rfl
  | _ h1 => rw [hw] at h1; cases h1
theorem VR.sl_inv {v : V} {c : Value} {b : Id} {o len cap es : Nat} {ex : Bool} (hv : VR φ v c) (hw : v.view = .sl b o len cap es ex) :
    ∃ cb oc cap', φ b = some cb ∧ c = .slice (some ⟨cb.blk, oc, none⟩) len cap' ∧ len ≤ cap ∧ cap ≤ cap' ∧ (ex = true → cap' = cap) ∧ (0 < cap' → oc = cb.off + o ∧ cb.off + o + cap' * es ≤ cb.tot) := by
  cases hv with
  | sl h1 hb hl hc hx ha => rw [hw] at h1; cases h1; exact ⟨_, _, _, hb, rfl, hl, hc, hx, ha⟩
  | _ h1 => rw [hw] at h1; cases h1
theorem VR.nilm_inv {v : V} {c : Value} (hv : VR φ v c) (hw : v.view = .nilm) : c = .map none := by
  cases hv with
  | nilm h1 => rfl
  | _ h1 => rw [hw] at h1; cases h1
theorem VR.mp_inv {v : V} {c : Value} {b : Id} (hv : VR φ v c) (hw : v.view = .mp b) : ∃ cb, φ b = some cb ∧ c = .map (some cb.blk) := by
  cases hv with
  | mp h1 hb => rw [hw] at h1; cases h1; exact ⟨_, hb, rfl⟩
  | _ h1 => rw [hw] at h1; cases h1
theorem VR.fn_inv {v : V} {c : Value} {f n : Nat} {l : List V} (hv : VR φ v c) (hw : v.view = .fn f n l) :
    ∃ first cap : Array Value, c = .func (.func f) first cap ∧ VRL φ (l.take n) first.toList ∧ VRL φ (l.drop n) cap.toList := by
  cases hv with
  | fn h1 h2 h3 => rw [hw] at h1; cases h1; exact ⟨_, _, rfl, h2, h3⟩
  | _ h1 => rw [hw] at h1; cases h1
theorem VR.yld_inv {v : V} {c : Value} {b : Id} (hv : VR φ v c) (hw : v.view = .yld b) : ∃ cb, φ b = some cb ∧ c = .func (.yield cb.blk) #[] #[] := by
  cases hv with
  | yld h1 hb => rw [hw] at h1; cases h1; exact ⟨_, hb, rfl⟩
  | _ h1 => rw [hw] at h1; cases h1
theorem VR.nilf_inv {v : V} {c : Value} (hv : VR φ v c) (hw : v.view = .nilf) : c = .nilFunc := by
  cases hv with
  | nilf h1 => rfl
  | _ h1 => rw [hw] at h1; cases h1
theorem VR.iface_inv {v x : V} {c : Value} {t : Nat} (hv : VR φ v c) (hw : v.view = .iface t x) : ∃ c', c = .iface t c' ∧ VR φ x c' := by
  cases hv with
  | iface h1 hx => rw [hw] at h1; cases h1; exact ⟨_, rfl, hx⟩
  | _ h1 => rw [hw] at h1; cases h1
theorem VR.nili_inv {v : V} {c : Value} (hv : VR φ v c) (hw : v.view = .nili) : c = .nilIface := by
  cases hv with
  | nili h1 => rfl
  | _ h1 => rw [hw] at h1; cases h1
theorem VR.agg_inv {v : V} {c : Value} {l : List V} (hv : VR φ v c) (hw : v.view = .agg l) : ∃ a : Array Value, c = .agg a ∧ VRL φ l a.toList := by
  cases hv with
  | agg h1 hl => rw [hw] at h1; cases h1; exact ⟨_, rfl, hl⟩
  | _ h1 => rw [hw] at h1; cases h1
theorem VR.tup_inv {v : V} {c : Value} {l : List V} (hv : VR φ v c) (hw : v.view = .tup l) : ∃ a : Array Value, c = .tuple a ∧ VRL φ l a.toList := by
  cases hv with
  | tup h1 hl => rw [hw] at h1; cases h1; exact ⟨_, rfl, hl⟩
  | _ h1 => rw [hw] at h1; cases h1
theorem dI_eI {n : Int} (h : -9223372036854775808 ≤ n) : dI (eI n) = n := by
  have h1 : (off63 : Int) = 9223372036854775808 := rfl
  unfold dI eI
  generalize off63 = o at *
  omega
theorem kOf_kTo : ∀ k, kOf (kTo k) = k := by intro k; cases k <;> rfl
theorem wrap_ge (k : IntKind) (n : Int) : -9223372036854775808 ≤ k.wrap n := by
  cases k with
  | i64 => rw [IntKind.wrap_i64]; omega
  | i32 => rw [IntKind.wrap_i32]; omega
  | i16 => simp [IntKind.wrap, IntKind.bits, IntKind.signed]; split <;> omega
  | i8 => simp [IntKind.wrap, IntKind.bits, IntKind.signed]; split <;> omega
  | u8 => rw [IntKind.wrap_u8]; omega
  | u32 => rw [IntKind.wrap_u32]; omega
  | u16 => simp [IntKind.wrap, IntKind.bits, IntKind.signed]; omega
  | u64 => simp [IntKind.wrap, IntKind.bits, IntKind.signed]; omega
theorem VR.ofI {k : IntKind} {n : Int} (h : -9223372036854775808 ≤ n) : VR φ (vOfI k n) (.int k n) := .int (view_int _ _) (dI_eI h)
theorem dI_add (n : Nat) : dI (n + off63) = n := by
  unfold dI
  rw [Int.natCast_add]
  exact Int.add_sub_cancel _ _
theorem VR.i64 (n : Nat) : VR φ (vI64 n) (goInt n) := VR.int (k := .i64) (view_int 0 _) (dI_add n)
theorem natOf_inv {v : V} {c : Value} {n : Nat} (hv : VR φ v c) (hn : natOf v = some n) : ∃ κ, c = .int κ (n : Int) := by
  unfold natOf at hn
  split at hn
  · rename_i k a hview
    split at hn
    · rename_i hle
      have hn := Option.some.inj hn
      obtain ⟨κ, m, _, h2, rfl⟩ := hv.int_inv hview
      refine ⟨κ, congrArg (Value.int κ) ?_⟩
      rw [← h2, ← hn]
      unfold dI
      generalize off63 = o at *
      omega
    · cases hn
  · cases hn
theorem load_run (hr : HR cs φ h w) {x v : V} {h' : H} {c : Value} {t : TypeId} {i : TyI} (ht : TyOK P t i) (hx : VR φ x c)
    (hl : loadA h (if i.agg then some i.size else none) x = .val v h') : h' = h ∧ ∃ c', (Instr.loadAt t c).run P w = .ok c' w ∧ VR φ v c' := by
  unfold loadA at hl
  split at hl
  · rename_i b o hview
    obtain ⟨cb, hb, rfl⟩ := hx.ptr_inv hview
    have hs : (Instr.sureAddr (.pointer (some ⟨cb.blk, cb.off + o, none⟩))).run P w = .ok (⟨cb.blk, cb.off + o, none⟩ : Addr) w := rfl
    by_cases ha : i.agg = true
    · simp only [ha, if_true] at hl
      split at hl
      · rename_i l hrd
        cases hl
        obtain ⟨_, xs, hv, hlen, hc, _⟩ := rdCells_run hr hb hrd
        refine ⟨rfl, .agg xs.toArray, ?_, .agg (view_agg _) (by simpa using hv)⟩
        have := run_loadCells_list (P := P) w ⟨cb.blk, cb.off + o, none⟩ xs (fun j v hj => by rw [add_addr]; exact hc j v hj)
        rw [hlen] at this
        simp [Instr.loadAt, hs, loadVar, run_isAgg ht, run_sizeOf ht, ha, this]
      · cases hl
    · have ha' : i.agg = false := by simpa using ha
      simp only [ha', Bool.false_eq_true, if_false] at hl
      split at hl
      · rename_i x' hrd
        cases hl
        obtain ⟨_, xs, hv, hlen, hc, _⟩ := rdCells_run hr hb hrd
        cases hv with
        | cons hv1 hv2 =>
          rename_i c1 cs1
          have hcell := hc 0 c1 rfl
          rw [Nat.add_zero] at hcell
          refine ⟨rfl, c1, ?_, hv1⟩
          simp [Instr.loadAt, hs, loadVar, run_isAgg ht, ha', hcell]
      · cases hl
  · cases hl
theorem store_run (hr : HR cs φ h w) {x y : V} {h' : H} {c d : Value} {t : TypeId} {i : TyI} (ht : TyOK P t i) {b : Id} {o : Nat} (hx : VR φ x c) (hy : VR φ y d)
    (hview : x.view = .ptr b o) (hlen : (cellsOf y).length = i.size) (hs : storeA h b o (cellsOf y) = some h') :
    ∃ w', (Instr.storeAt t c d).run P w = .ok () w' ∧ HR cs φ h' w' ∧ Ext φ h w φ h' w' := by
  obtain ⟨cb, hb, rfl⟩ := hx.ptr_inv hview
  by_cases hk : y.view = .unk
  · exfalso
    unfold storeA at hs
    split at hs
    · split at hs
      · rename_i hc
        have := flat_Flat hc.2.2.2 y (by simp [cellsOf, hk])
        simp [V.cell, hk] at this
      · cases hs
    · cases hs
  · have hv := cellsOf_run hy hk
    obtain ⟨w', hrun, hr', hext⟩ := storeA_run (P := P) hr hb hs hv
    have hsz : d.cells.size = i.size := by have := hv.length; simpa [hlen] using this.symm
    refine ⟨w', ?_, hr', hext⟩
    simp [Instr.storeAt, Instr.sureAddr, storeVar, run_sizeOf ht, hsz, hrun]
theorem box_run (hr : HR cs φ h w) {x v : V} {h' : H} {d : Value} {e : TypeId} (hx : VR φ x d) (hk : x.view ≠ .unk)
    (hn : newA h e true (cellsOf x) (fun b => vPtr b 0) = .val v h') : ∃ c w', (Instr.box e d).run P w = .ok c w' ∧ Sim cs φ h w v h' c w' := by
  have hv := cellsOf_run hx hk
  obtain ⟨rfl, hr', hext⟩ := newA_run [] (fun _ => rfl) hr hn hv
  refine ⟨_, _, ?_, _, hr', hext, .ptr (view_ptr _ _) (Phi.add_same _ _ _)⟩
  simp [Instr.box, newVar, newRow, pushed]
end Go.Eng
end
section
namespace Go.Eng
def Bytes (l : List Nat) : Prop := ∀ b ∈ l, b < 256
theorem bytesL_bytes (s : ByteArray) : Bytes (bytesL s) := by
  intro b hb
  obtain ⟨x, _, rfl⟩ := List.mem_map.1 hb
  exact x.toNat_lt
theorem bytesL_length (s : ByteArray) : (bytesL s).length = s.size := by simp [bytesL]
theorem unpackN_packL : ∀ (l : List Nat), Bytes l → unpackN (packL l) l.length = l
  | [], _ => rfl
  | b :: l, h => by
    have h1 := h b (by simp)
    simp only [packL, List.length_cons, unpackN]
    rw [show (b + 256 * packL l) % 256 = b by omega, show (b + 256 * packL l) / 256 = packL l by omega, unpackN_packL l fun x hx => h x (List.mem_cons_of_mem _ hx)]
theorem packL_inj {l m : List Nat} (hl : Bytes l) (hm : Bytes m) (hlen : l.length = m.length) (h : packL l = packL m) : l = m := by
  rw [← unpackN_packL l hl, ← unpackN_packL m hm, hlen, h]
theorem packL_append : ∀ (l m : List Nat), packL (l ++ m) = packL l + 256 ^ l.length * packL m
  | [], m => by simp [packL]
  | b :: l, m => by
    simp only [List.cons_append, packL, packL_append l m, List.length_cons, Nat.pow_succ, Nat.mul_add]
    rw [Nat.add_assoc]
    congr 2
    rw [Nat.mul_comm (256 ^ l.length) 256, Nat.mul_assoc]
theorem packL_drop : ∀ (n : Nat) (l : List Nat), Bytes l → packL (l.drop n) = packL l / 256 ^ n
  | 0, l, _ => by simp
  | n + 1, [], _ => by simp [packL]
  | n + 1, b :: l, h => by
    have h1 := h b (by simp)
    rw [List.drop_succ_cons, packL_drop n l fun x hx => h x (List.mem_cons_of_mem _ hx)]
    simp only [packL]
    rw [Nat.pow_succ, Nat.mul_comm (256 ^ n) 256, ← Nat.div_div_eq_div_mul, show (b + 256 * packL l) / 256 = packL l by omega]
theorem packL_take : ∀ (n : Nat) (l : List Nat), Bytes l → packL (l.take n) = packL l % 256 ^ n
  | 0, l, _ => by simp [packL, Nat.mod_one]
  | n + 1, [], _ => by simp [packL]
  | n + 1, b :: l, h => by
    have h1 := h b (by simp)
    rw [List.take_succ_cons]
    simp only [packL]
    rw [packL_take n l fun x hx => h x (List.mem_cons_of_mem _ hx), Nat.pow_succ, Nat.mul_comm (256 ^ n) 256, Nat.mod_mul,
      show (b + 256 * packL l) % 256 = b by omega, show (b + 256 * packL l) / 256 = packL l by omega]
theorem packL_get (l : List Nat) (h : Bytes l) (i b : Nat) (hi : l[i]? = some b) : strAt (packL l) i = b := by
  have hb : b < 256 := h b (List.mem_of_getElem? hi)
  unfold strAt
  rw [← packL_drop i l h]
  have : l.drop i = b :: l.drop (i + 1) := by
    have hlt : i < l.length := by
      rcases Nat.lt_or_ge i l.length with hlt | hge
      · exact hlt
      · rw [List.getElem?_eq_none hge] at hi; cases hi
    rw [List.drop_eq_getElem_cons hlt]
    rw [List.getElem?_eq_getElem hlt] at hi
    rw [Option.some.inj hi]
  rw [this]
  simp only [packL]
  omega
theorem subStr_pack (l : List Nat) (h : Bytes l) (a b : Nat) : subStr (packL l) a b = packL ((l.drop a).take (b - a)) := by
  unfold subStr
  rw [packL_take _ _ fun x hx => h x (List.mem_of_mem_drop hx), packL_drop _ _ h]
theorem bytesL_eq (s : ByteArray) : bytesL s = s.toList.map (·.toNat) := by rw [ByteArray.toList_eq]; rfl
theorem map_toNat_inj {l m : List UInt8} (h : l.map (·.toNat) = m.map (·.toNat)) : l = m := by
  induction l generalizing m with
  | nil => cases m with | nil => rfl | cons => simp at h
  | cons a l ih =>
    cases m with
    | nil => simp at h
    | cons b m =>
      simp only [List.map_cons, List.cons.injEq] at h
      rw [UInt8.toNat_inj.1 h.1, ih h.2]
theorem str_eq {s t : ByteArray} {l x m y : Nat} (h1 : s.size = l) (h2 : packL (bytesL s) = x) (h3 : t.size = m) (h4 : packL (bytesL t) = y) :
    (s.toList == t.toList) = (l == m && x == y) := by
  subst h1 h2 h3 h4
  rw [Bool.eq_iff_iff]
  simp only [beq_iff_eq, Bool.and_eq_true]
  constructor
  · intro e
    have e1 : bytesL s = bytesL t := by rw [bytesL_eq, bytesL_eq, e]
    exact ⟨by rw [← bytesL_length, ← bytesL_length, e1], by rw [e1]⟩
  · rintro ⟨e1, e2⟩
    have := packL_inj (bytesL_bytes s) (bytesL_bytes t) (by rw [bytesL_length, bytesL_length, e1]) e2
    rw [bytesL_eq, bytesL_eq] at this
    exact map_toNat_inj this
theorem ltL_bytes : ∀ (l m : List UInt8), ltL (l.map (·.toNat)) (m.map (·.toNat)) = Op.bytesLess l m
  | _, [] => by simp [ltL, Op.bytesLess]
  | [], b :: m => by simp [ltL, Op.bytesLess]
  | a :: l, b :: m => by
    simp only [List.map_cons, ltL, Op.bytesLess, ltL_bytes l m]
    congr 2
    rw [Bool.eq_iff_iff]
    simp only [beq_iff_eq]
    exact UInt8.toNat_inj
theorem str_lt {s t : ByteArray} {l x m y : Nat} (h1 : s.size = l) (h2 : packL (bytesL s) = x) (h3 : t.size = m) (h4 : packL (bytesL t) = y) :
    Op.bytesLess s.toList t.toList = strLt l x m y := by
  subst h1 h2 h3 h4
  unfold strLt
  rw [← bytesL_length s, ← bytesL_length t, unpackN_packL _ (bytesL_bytes s), unpackN_packL _ (bytesL_bytes t), bytesL_eq, bytesL_eq, ltL_bytes]
variable {P : Program} {φ : Phi} {w : World}
theorem binS_run {op : BinOp} {s t : ByteArray} {l x m y : Nat} {v : V} (h1 : s.size = l) (h2 : packL (bytesL s) = x) (h3 : t.size = m) (h4 : packL (bytesL t) = y) (hb : binS op l x m y = some v) :
    ∃ c, (Op.stringOp op s t).run P w = .ok c w ∧ VR φ v c := by
  have he := str_eq h1 h2 h3 h4
  have hl := str_lt h1 h2 h3 h4
  cases op <;> simp only [binS] at hb <;> first
    | (cases hb; refine ⟨_, by simp only [Op.stringOp, he, hl]; rfl, ?_⟩; exact .bool (view_bool _))
    | (cases hb; done)
    | skip
  split at hb
  · rename_i hlt
    cases hb
    refine ⟨.string (s ++ t), ?_, .str (view_str _ _) (by simp [h1, h3]) ?_⟩
    · have : ¬ ((s.size + t.size : Nat) : Int) > IntKind.i64.max := by
        rw [h1, h3]
        have h5 : IntKind.i64.max = 9223372036854775807 := by decide
        have h6 : off63 = 9223372036854775808 := rfl
        generalize off63 = o at *
        omega
      simp only [Op.stringOp, this, if_false]
      rfl
    · have : bytesL (s ++ t) = bytesL s ++ bytesL t := by
        unfold bytesL
        simp
      rw [this, packL_append, bytesL_length, h1, h2, h4]
  · cases hb
end Go.Eng
end
section
namespace Go.Eng
variable {P : Program} {cs : Nat → Option CSite} {φ : Phi} {h : H} {w : World}
theorem tmod_ge (a b : Int) (h : -9223372036854775808 ≤ a) : -9223372036854775808 ≤ a.tmod b := by
  have h1 : (a.tmod b).natAbs = a.natAbs % b.natAbs := Int.natAbs_tmod a b
  have h2 : a.natAbs % b.natAbs ≤ a.natAbs := Nat.mod_le _ _
  by_cases h0 : 0 ≤ a
  · have := Int.tmod_nonneg b h0; omega
  · omega
theorem dI_ge (a : Nat) : -9223372036854775808 ≤ dI a := by
  have h1 : (off63 : Int) = 9223372036854775808 := rfl
  unfold dI
  generalize off63 = o at *
  omega
theorem binI_run {op : BinOp} {k : IntKind} {a b : Int} {v : V} (t : TypeId) (ha : -9223372036854775808 ≤ a) (hb : binI op k a b = some v) :
    ∃ c, (binOp op t (.int k a) (.int k b)).run P w = .ok c w ∧ VR φ v c := by
  cases op <;> simp only [binI] at hb <;> first
    | (cases hb; done)
    | (cases hb; refine ⟨_, by simp only [binOp, ne_eq, not_true_eq_false, if_false, Op.intArith]; rfl, ?_⟩; exact .ofI (wrap_ge _ _))
    | (cases hb; refine ⟨_, by simp only [binOp, ne_eq, not_true_eq_false, if_false, Op.intBits]; rfl, ?_⟩; exact .ofI (wrap_ge _ _))
    | (cases hb; refine ⟨_, by simp only [binOp, ne_eq, not_true_eq_false, if_false, Op.intCmp]; rfl, ?_⟩; exact .bool (view_bool _))
    | skip
  · split at hb
    · cases hb
    · rename_i h0
      cases hb
      refine ⟨_, by simp only [binOp, ne_eq, not_true_eq_false, if_false, Op.intDiv, h0]; rfl, .ofI (wrap_ge _ _)⟩
  · split at hb
    · cases hb
    · rename_i h0
      cases hb
      refine ⟨_, by simp only [binOp, ne_eq, not_true_eq_false, if_false, Op.intDiv, h0]; rfl, .ofI (tmod_ge _ _ ha)⟩
theorem fdiv_ge (a : Int) (n : Nat) (h : -9223372036854775808 ≤ a) : -9223372036854775808 ≤ a.fdiv (2 ^ n) := by
  have hp : (0 : Int) < 2 ^ n := Int.pow_pos (by decide)
  rw [Int.fdiv_eq_ediv_of_nonneg _ (Int.le_of_lt hp)]
  by_cases h0 : 0 ≤ a
  · have := Int.ediv_nonneg h0 (Int.le_of_lt hp); omega
  · have h1 : a ≤ a / 2 ^ n := by
      rw [Int.le_ediv_iff_mul_le hp]
      have : (1 : Int) ≤ 2 ^ n := hp
      have : a * 2 ^ n ≤ a * 1 := Int.mul_le_mul_of_nonpos_left (by omega) this
      omega
    omega
theorem bin_run {op : BinOp} {x y v : V} {c d : Value} (t : TypeId) (hx : VR φ x c) (hy : VR φ y d) (hb : binA op x y = some v) :
    ∃ r, (binOp op t c d).run P w = .ok r w ∧ VR φ v r := by
  unfold binA at hb
  split at hb
  · rename_i k a k' b hvx hvy
    obtain ⟨κ, m, rfl, rfl, rfl⟩ := hx.int_inv hvx
    obtain ⟨κ', n, rfl, rfl, rfl⟩ := hy.int_inv hvy
    split at hb
    · split at hb
      · cases hb
      · rename_i h0
        have hb := Option.some.inj hb
        subst hb
        refine ⟨.int κ (κ.wrap (dI a * 2 ^ min (dI b).toNat κ.bits)), ?_, ?_⟩
        · simp only [binOp, Op.shift, h0, if_false]; rfl
        · rw [kOf_kTo]; exact .ofI (wrap_ge _ _)
    · split at hb
      · cases hb
      · rename_i h0
        have hb := Option.some.inj hb
        subst hb
        refine ⟨.int κ ((dI a).fdiv (2 ^ min (dI b).toNat κ.bits)), ?_, ?_⟩
        · simp only [binOp, Op.shift, h0, if_false]; rfl
        · rw [kOf_kTo]; exact .ofI (fdiv_ge _ _ (dI_ge _))
    · split at hb
      · rename_i hk
        have : κ = κ' := by have := congrArg kOf hk; simpa [kOf_kTo] using this
        subst this
        rw [kOf_kTo] at hb
        exact binI_run t (dI_ge _) hb
      · cases hb
  · rename_i l s m s' hvx hvy
    obtain ⟨s1, rfl, e1, e2⟩ := hx.str_inv hvx
    obtain ⟨s2, rfl, e3, e4⟩ := hy.str_inv hvy
    obtain ⟨c, hc, hv⟩ := binS_run (P := P) (φ := φ) (w := w) e1 e2 e3 e4 hb
    refine ⟨c, ?_, hv⟩
    rw [← hc]
    cases op <;> rfl
  · cases hb
theorem un_run {op : UnOp} {x v : V} {h' : H} {c : Value} (hx : VR φ x c)
    (hb : (match op, x.view with
      | .not, .bool b => OR.val (vBool (!b)) h
      | .neg, .int k a => .val (vOfI (kOf k) ((kOf k).wrap (0 - dI a))) h
      | _, _ => .fail) = .val v h') : h' = h ∧ ∃ r, (Op.unary op c).run P w = .ok r w ∧ VR φ v r := by
  split at hb
  · rename_i b hv
    cases hb
    cases hx.bool_inv hv
    exact ⟨rfl, _, rfl, .bool (view_bool _)⟩
  · rename_i k a hv
    cases hb
    obtain ⟨κ, n, rfl, rfl, rfl⟩ := hx.int_inv hv
    refine ⟨rfl, _, rfl, ?_⟩
    rw [kOf_kTo]
    exact .ofI (wrap_ge _ _)
  · cases hb
theorem extract_run {x v : V} {h' : H} {c : Value} {i : Nat} (hx : VR φ x c)
    (hb : (match x.view with
      | .tup l => match l[i]? with
        | some v => OR.val v h
        | none => .fail
      | _ => .fail) = .val v h') : h' = h ∧ ∃ r, (Instr.extract c i).run P w = .ok r w ∧ VR φ v r := by
  split at hb
  · rename_i l hv
    obtain ⟨a, rfl, hl⟩ := hx.tup_inv hv
    split at hb
    · rename_i v' hg
      cases hb
      obtain ⟨r, hr, hvr⟩ := hl.get _ _ hg
      refine ⟨rfl, r, ?_, hvr⟩
      have : a[i]? = some r := by simpa using hr
      simp [Instr.extract, this]
    · cases hb
  · cases hb
theorem mkFunc_run {f : Nat} {first cap : List V} {a c : List Value} (ha : VRL φ first a) (hc : VRL φ cap c) :
    VR φ (vFn f first.length (first ++ cap)) (.func (.func f) a.toArray c.toArray) :=
  .fn (view_fn _ _ _) (by simpa using ha) (by simpa using hc)
theorem part_run {t : TypeId} {i : TyI} (ht : TyOK P t i) {l : List V} {a : Array Value} (hl : VRL φ l a.toList) {off : Nat} {v : V} {h' : H}
    (hb : (match (if i.agg then some i.size else none) with
      | none => match l[off]? with
        | some v => OR.val v h
        | none => .fail
      | some m => if off + m ≤ l.length then .val (vAgg ((l.drop off).take m)) h else .fail) = .val v h') :
    h' = h ∧ ∃ r, (part t a off).run P w = .ok r w ∧ VR φ v r := by
  by_cases ha : i.agg = true
  · simp only [ha, if_true] at hb
    split at hb
    · rename_i hle
      cases hb
      refine ⟨rfl, .agg (a.extract off (off + i.size)), ?_, .agg (view_agg _) ?_⟩
      · simp [part, run_isAgg ht, ha, run_sizeOf ht]
      · have := (hl.drop off).take i.size
        rw [Array.toList_extract]
        simpa [List.extract, Nat.add_sub_cancel_left] using this
    · cases hb
  · have ha' : i.agg = false := by simpa using ha
    simp only [ha', Bool.false_eq_true, if_false] at hb
    split at hb
    · rename_i v' hg
      cases hb
      obtain ⟨r, hr, hvr⟩ := hl.get _ _ hg
      refine ⟨rfl, r, ?_, hvr⟩
      have : a[off]? = some r := by simpa using hr
      simp [part, run_isAgg ht, ha', this]
    · cases hb
theorem field_run {tm : Go.Eng.T} {ix : IX} {t : TypeId} {it : TyI} (ht : TyOK P t it) {fs : Array Field} (hd : it.desc = .struct fs) {f : Nat} {fd : Field} (hf : fs[f]? = some fd)
    {i : TyI} (hi : TyOK P fd.type i) {x v : V} {c : Value} {h' : H} (hx : VR φ x c)
    (hb : opA tm h (.field fd.offset (if i.agg then some i.size else none) ix) = .val v h') (he : ev tm ix = x) :
    h' = h ∧ ∃ r, (Instr.field t c f).run P w = .ok r w ∧ VR φ v r := by
  simp only [opA, he] at hb
  split at hb
  · rename_i l hv
    obtain ⟨a, rfl, hl⟩ := hx.agg_inv hv
    obtain ⟨h1, r, hr, hvr⟩ := part_run (P := P) (w := w) hi hl hb
    refine ⟨h1, r, ?_, hvr⟩
    simp [Instr.field, run_underlying ht, hd, hf, asAgg, hr]
  · cases hb
theorem index_arr_run {t : TypeId} {it : TyI} (ht : TyOK P t it) {n : Nat} {e : TypeId} (hd : it.desc = .array n e) {i : TyI} (hi : TyOK P e i)
    {x y v : V} {c d : Value} {h' : H} {k : Nat} (hx : VR φ x c) (hy : VR φ y d) (hk : natOf y = some k) {l : List V} (hv : x.view = .agg l) (hlt : k < n)
    (hb : (match (if i.agg then some i.size else none) with
      | none => match l[k * i.size]? with
        | some v => OR.val v h
        | none => .fail
      | some m => if k * i.size + m ≤ l.length then .val (vAgg ((l.drop (k * i.size)).take m)) h else .fail) = .val v h') :
    h' = h ∧ ∃ r, (Instr.index t c d).run P w = .ok r w ∧ VR φ v r := by
  obtain ⟨a, rfl, hl⟩ := hx.agg_inv hv
  obtain ⟨κ, rfl⟩ := natOf_inv hy hk
  obtain ⟨h1, r, hr, hvr⟩ := part_run (P := P) (w := w) hi hl hb
  refine ⟨h1, r, ?_, hvr⟩
  simp [Instr.index, asIntOf, run_underlying ht, hd, hlt, run_sizeOf hi, hr]
theorem index_str_run {t : TypeId} {it : TyI} (ht : TyOK P t it) (hd : it.desc = .string) {x y : V} {c d : Value} {k l s : Nat} (hx : VR φ x c) (hy : VR φ y d)
    (hk : natOf y = some k) (hv : x.view = .str l s) (hlt : k < l) :
    ∃ r, (Instr.index t c d).run P w = .ok r w ∧ VR φ (vInt 4 (strAt s k + off63)) r := by
  obtain ⟨st, rfl, e1, e2⟩ := hx.str_inv hv
  obtain ⟨κ, rfl⟩ := natOf_inv hy hk
  have hlt' : k < st.size := by omega
  refine ⟨.int .u8 st[k].toNat, ?_, ?_⟩
  · simp [Instr.index, asIntOf, run_underlying ht, hd, hlt']
  · have hb : (bytesL st)[k]? = some st[k].toNat := by
      unfold bytesL
      rw [List.getElem?_map]
      have : st.data.toList[k]? = some st[k] := by
        rw [Array.getElem?_toList, Array.getElem?_eq_getElem hlt']; rfl
      rw [this]; rfl
    have := packL_get _ (bytesL_bytes st) _ _ hb
    rw [e2] at this
    exact VR.int (k := .u8) (view_int 4 _) (by rw [this]; exact dI_add _)
end Go.Eng
end
section
namespace Go.Eng
variable {P : Program} {cs : Nat → Option CSite} {φ : Phi} {h : H} {w : World}
def LeafTy (P : Program) (t : TypeId) : LK → Prop
  | .bool => P.underlying t = some .bool
  | .int => ∃ k, P.underlying t = some (.int k)
  | .str => P.underlying t = some .string
  | .ptr => ∃ e i, P.underlying t = some (.pointer e) ∧ P.info? e = some i ∧ i.size ≠ 0
structure FlatTy (P : Program) (t : TypeId) (ks : List LK) : Prop where
  desc : P.underlying t = some (.struct (P.fieldsOf t))
  held : P.stoodInHeld t = false
  guard : P.eqGuardType P.depth t = false
  size : (P.fieldsOf t).toList.length = ks.length
  field : ∀ (i : Nat) (f : Field) (k : LK), (P.fieldsOf t).toList[i]? = some f → ks[i]? = some k → f.name ≠ "_" ∧ f.offset = i ∧ LeafTy P f.type k
def EqTy (P : Program) (t : TypeId) : EqK → Prop
  | .leaf k => LeafTy P t k
  | .flat ks => FlatTy P t ks
  | .sl => ∃ e, P.underlying t = some (.slice e)
  | .mp => ∃ k e, P.underlying t = some (.map k e)
  | .fn => ∃ a b c, P.underlying t = some (.func a b c)
  | .iface => ∃ ms, P.underlying t = some (.interface ms)
theorem beq_str (a b : ByteArray) : (a == b) = (a.toList == b.toList) := beq_toListBytes a b
theorem leaf_isAgg {t : TypeId} {k : LK} (ht : LeafTy P t k) : (isAgg t).run P w = .ok false w := by
  cases k with
  | bool => simp [isAgg, underlying, show P.underlying t = some .bool from ht]
  | int => obtain ⟨k, hk⟩ := ht; simp [isAgg, underlying, hk]
  | str => simp [isAgg, underlying, show P.underlying t = some .string from ht]
  | ptr => obtain ⟨e, i, hk, _⟩ := ht; simp [isAgg, underlying, hk]
theorem equal_leaf {t : TypeId} {k : LK} (ht : LeafTy P t k) {x y : V} {c d : Value} (hx : VR φ x c) (hy : VR φ y d) {r : Bool} (hr : aeqS k x y = some r) (n : Nat) :
    (Op.equalIn (n + 1) t c d).run P w = .ok r w := by
  unfold aeqS at hr
  split at hr
  · rename_i a b hvx hvy
    cases hr; cases hx.bool_inv hvx; cases hy.bool_inv hvy
    exact run_equalIn_bool' w n t a b ht
  · rename_i j a k' b hvx hvy
    obtain ⟨κ, m, rfl, rfl, rfl⟩ := hx.int_inv hvx
    obtain ⟨κ', m', rfl, rfl, rfl⟩ := hy.int_inv hvy
    split at hr
    · rename_i hk
      have : κ = κ' := by have := congrArg kOf hk; simpa [kOf_kTo] using this
      subst this
      have hr := Option.some.inj hr
      subst hr
      obtain ⟨k0, ht⟩ := ht
      rw [run_equalIn_int w n t κ k0 _ _ ht]
      congr 1
      rw [Bool.eq_iff_iff]
      simp only [beq_iff_eq]
      constructor
      · intro e; unfold dI at e; omega
      · intro e; rw [e]
    · cases hr
  · rename_i l s m s' hvx hvy
    obtain ⟨s1, rfl, e1, e2⟩ := hx.str_inv hvx
    obtain ⟨s2, rfl, e3, e4⟩ := hy.str_inv hvy
    cases hr
    rw [run_equalIn_string w n t s1 s2 ht, str_eq e1 e2 e3 e4]
  · rename_i hvx hvy
    cases hr; cases hx.nilp_inv hvx; cases hy.nilp_inv hvy
    obtain ⟨e, i, ht, _⟩ := ht
    simp [Op.equalIn, underlying, ht]
  · rename_i b o hvx hvy
    cases hr; cases hx.nilp_inv hvx; obtain ⟨cb, hb, rfl⟩ := hy.ptr_inv hvy
    obtain ⟨e, i, ht, _⟩ := ht
    simp [Op.equalIn, underlying, ht]
  · rename_i b o hvx hvy
    cases hr; cases hy.nilp_inv hvy; obtain ⟨cb, hb, rfl⟩ := hx.ptr_inv hvx
    obtain ⟨e, i, ht, _⟩ := ht
    simp [Op.equalIn, underlying, ht]
  · rename_i b o b' o' hvx hvy
    obtain ⟨cb, hb, rfl⟩ := hx.ptr_inv hvx
    obtain ⟨cb', hb', rfl⟩ := hy.ptr_inv hvy
    split at hr
    · rename_i e0
      subst e0
      rw [hb] at hb'
      cases hb'
      cases hr
      obtain ⟨e, i, ht, hi, h0⟩ := ht
      have : ((⟨cb.blk, cb.off + o, none⟩ : Addr) == ⟨cb.blk, cb.off + o', none⟩) = (o == o') := by
        rw [Bool.eq_iff_iff]; simp
      simp [Op.equalIn, underlying, ht, sizeOf, typeInfo, hi, h0, sameAddr]
      rw [Bool.eq_iff_iff]; simp
    · cases hr
  · cases hr
theorem part_leaf {t : TypeId} {k : LK} (ht : LeafTy P t k) {a : Array Value} {off : Nat} {c : Value} (hc : a[off]? = some c) : (part t a off).run P w = .ok c w := by
  simp [part, leaf_isAgg ht, hc]
theorem equal_fields (n : Nat) : ∀ (fs : List Field) (ks : List LK) (as bs : List V) (off : Nat) (xs ys : Array Value) (r : Bool),
    fs.length = ks.length → (∀ (i : Nat) (f : Field) (k : LK), fs[i]? = some f → ks[i]? = some k → f.name ≠ "_" ∧ f.offset = off + i ∧ LeafTy P f.type k) →
    VRL φ as (xs.toList.drop off) → VRL φ bs (ys.toList.drop off) → aeqL ks as bs = some r → (Op.eqFields (n + 1) xs ys fs).run P w = .ok r w
  | [], [], as, bs, off, xs, ys, r, _, _, _, _, hr => by
    cases as <;> cases bs <;> simp [aeqL] at hr
    subst hr; rfl
  | f :: fs, k :: ks, as, bs, off, xs, ys, r, hl, hf, ha, hb, hr => by
    cases as with
    | nil => simp [aeqL] at hr
    | cons a as =>
      cases bs with
      | nil => simp [aeqL] at hr
      | cons b bs =>
        generalize hdx : xs.toList.drop off = dx at ha
        generalize hdy : ys.toList.drop off = dy at hb
        cases ha with
        | cons ha1 ha2 =>
          rename_i c cs1
          cases hb with
          | cons hb1 hb2 =>
            rename_i d ds1
            obtain ⟨hn, ho, hlt⟩ := hf 0 f k rfl rfl
            have hx : xs[off]? = some c := by
              have : (xs.toList.drop off)[0]? = some c := by rw [hdx]; rfl
              rw [List.getElem?_drop] at this
              simpa using this
            have hy : ys[off]? = some d := by
              have : (ys.toList.drop off)[0]? = some d := by rw [hdy]; rfl
              rw [List.getElem?_drop] at this
              simpa using this
            have hx2 : xs.toList.drop (off + 1) = cs1 := by
              rw [← List.drop_drop, hdx]; rfl
            have hy2 : ys.toList.drop (off + 1) = ds1 := by
              rw [← List.drop_drop, hdy]; rfl
            have hof : f.offset = off := by omega
            have hp1 := part_leaf (P := P) (w := w) hlt hx
            have hp2 := part_leaf (P := P) (w := w) hlt hy
            simp only [aeqL] at hr
            cases hs : aeqS k a b with
            | none => rw [hs] at hr; cases hr
            | some r1 =>
              have he := equal_leaf (P := P) (w := w) hlt ha1 hb1 hs n
              rw [hs] at hr
              cases r1 with
              | false =>
                cases hr
                simp [Op.eqFields, hn, hof, hp1, hp2, he]
              | true =>
                have ih := equal_fields n fs ks as bs (off + 1) xs ys r (by simpa using hl)
                  (fun i f' k' h1 h2 => by
                    obtain ⟨p1, p2, p3⟩ := hf (i + 1) f' k' (by simpa using h1) (by simpa using h2)
                    exact ⟨p1, by omega, p3⟩) (by rw [hx2]; exact ha2) (by rw [hy2]; exact hb2) hr
                simp [Op.eqFields, hn, hof, hp1, hp2, he, ih]
  | [], _ :: _, _, _, _, _, _, _, hl, _, _, _, _ => by simp at hl
  | _ :: _, [], _, _, _, _, _, _, hl, _, _, _, _ => by simp at hl
theorem equal_sl {t : TypeId} (ht : EqTy P t .sl) {x y : V} {c d : Value} (hx : VR φ x c) (hy : VR φ y d) {r : Bool} (hr : aeq .sl x y = some r) (n : Nat) :
    (Op.equalIn (n + 1) t c d).run P w = .ok r w := by
  obtain ⟨e, ht⟩ := ht
  simp only [aeq] at hr
  split at hr
  · rename_i h1 h2; cases hr; cases hx.nils_inv h1; cases hy.nils_inv h2; simp only [Op.equalIn, underlying, ht, Sem.run_bind, run_program, Result.andThen, Sem.run_pure]; try rfl
  · rename_i h1 h2; cases hr; cases hx.nils_inv h1; obtain ⟨_, _, _, _, rfl, _⟩ := hy.sl_inv h2; simp only [Op.equalIn, underlying, ht, Sem.run_bind, run_program, Result.andThen, Sem.run_pure]; try rfl
  · rename_i h1 h2; cases hr; obtain ⟨_, _, _, _, rfl, _⟩ := hx.sl_inv h1; cases hy.nils_inv h2; simp only [Op.equalIn, underlying, ht, Sem.run_bind, run_program, Result.andThen, Sem.run_pure]; try rfl
  · cases hr
theorem equal_mp {t : TypeId} (ht : EqTy P t .mp) {x y : V} {c d : Value} (hx : VR φ x c) (hy : VR φ y d) {r : Bool} (hr : aeq .mp x y = some r) (n : Nat) :
    (Op.equalIn (n + 1) t c d).run P w = .ok r w := by
  obtain ⟨k, e, ht⟩ := ht
  simp only [aeq] at hr
  split at hr
  · rename_i h1 h2; cases hr; cases hx.nilm_inv h1; cases hy.nilm_inv h2; simp only [Op.equalIn, underlying, ht, Sem.run_bind, run_program, Result.andThen, Sem.run_pure]; try rfl
  · rename_i h1 h2; cases hr; cases hx.nilm_inv h1; obtain ⟨_, _, rfl⟩ := hy.mp_inv h2; simp only [Op.equalIn, underlying, ht, Sem.run_bind, run_program, Result.andThen, Sem.run_pure]; try rfl
  · rename_i h1 h2; cases hr; obtain ⟨_, _, rfl⟩ := hx.mp_inv h1; cases hy.nilm_inv h2; simp only [Op.equalIn, underlying, ht, Sem.run_bind, run_program, Result.andThen, Sem.run_pure]; try rfl
  · cases hr
theorem equal_fn {t : TypeId} (ht : EqTy P t .fn) {x y : V} {c d : Value} (hx : VR φ x c) (hy : VR φ y d) {r : Bool} (hr : aeq .fn x y = some r) (n : Nat) :
    (Op.equalIn (n + 1) t c d).run P w = .ok r w := by
  obtain ⟨a, b, e, ht⟩ := ht
  simp only [aeq] at hr
  split at hr
  · rename_i h1 h2; cases hr; cases hx.nilf_inv h1; cases hy.nilf_inv h2; simp only [Op.equalIn, underlying, ht, Sem.run_bind, run_program, Result.andThen, Sem.run_pure]; try rfl
  · rename_i h1 h2; cases hr; cases hx.nilf_inv h1; obtain ⟨_, _, rfl, _⟩ := hy.fn_inv h2; simp only [Op.equalIn, underlying, ht, Sem.run_bind, run_program, Result.andThen, Sem.run_pure]; try rfl
  · rename_i h1 h2; cases hr; obtain ⟨_, _, rfl, _⟩ := hx.fn_inv h1; cases hy.nilf_inv h2; simp only [Op.equalIn, underlying, ht, Sem.run_bind, run_program, Result.andThen, Sem.run_pure]; try rfl
  · cases hr
theorem equal_iface {t : TypeId} (ht : EqTy P t .iface) {x y : V} {c d : Value} (hx : VR φ x c) (hy : VR φ y d) {r : Bool} (hr : aeq .iface x y = some r) (n : Nat) :
    (Op.equalIn (n + 1) t c d).run P w = .ok r w := by
  obtain ⟨ms, ht⟩ := ht
  simp only [aeq] at hr
  split at hr
  · rename_i h1 h2; cases hr; cases hx.nili_inv h1; cases hy.nili_inv h2; simp only [Op.equalIn, underlying, ht, Sem.run_bind, run_program, Result.andThen, Sem.run_pure]; try rfl
  · rename_i h1 h2; cases hr; cases hx.nili_inv h1; obtain ⟨_, rfl, _⟩ := hy.iface_inv h2; simp only [Op.equalIn, underlying, ht, Sem.run_bind, run_program, Result.andThen, Sem.run_pure]; try rfl
  · rename_i h1 h2; cases hr; obtain ⟨_, rfl, _⟩ := hx.iface_inv h1; cases hy.nili_inv h2; simp only [Op.equalIn, underlying, ht, Sem.run_bind, run_program, Result.andThen, Sem.run_pure]; try rfl
  · cases hr
theorem equalIn_run {t : TypeId} {k : EqK} (ht : EqTy P t k) {x y : V} {c d : Value} (hx : VR φ x c) (hy : VR φ y d) {r : Bool} (hr : aeq k x y = some r) (n : Nat) :
    (Op.equalIn (n + 2) t c d).run P w = .ok r w := by
  cases k with
  | leaf k => exact equal_leaf ht hx hy hr (n + 1)
  | flat ks =>
    simp only [aeq] at hr
    split at hr
    · rename_i a b hvx hvy
      obtain ⟨xs, rfl, hlx⟩ := hx.agg_inv hvx
      obtain ⟨ys, rfl, hly⟩ := hy.agg_inv hvy
      split at hr
      · rw [run_equalIn_struct w (n + 1) t xs ys ht.desc ht.held]
        exact equal_fields n _ ks a b 0 xs ys r ht.size (fun i f k h1 h2 => by simpa using ht.field i f k h1 h2) (by simpa using hlx) (by simpa using hly) hr
      · cases hr
    · cases hr
  | sl => exact equal_sl ht hx hy hr (n + 1)
  | mp => exact equal_mp ht hx hy hr (n + 1)
  | fn => exact equal_fn ht hx hy hr (n + 1)
  | iface => exact equal_iface ht hx hy hr (n + 1)
theorem equal_run {t : TypeId} {k : EqK} (ht : EqTy P t k) {x y : V} {c d : Value} (hx : VR φ x c) (hy : VR φ y d) {r : Bool} (hr : aeq k x y = some r) :
    (Op.equal t c d).run P w = .ok r w := equalIn_run ht hx hy hr 9998
end Go.Eng
end
section
namespace Go.Eng
variable {P : Program} {cs : Nat → Option CSite} {φ : Phi} {h : H} {w : World}
def isConst : Operand → Bool
  | .const _ => true
  | _ => false
def EqK.own : EqK → Bool
  | .leaf .int | .leaf .str => false
  | _ => true
theorem VR.view_nili {x : V} (hx : VR φ x .nilIface) : x.view = .unk ∨ x.view = .nili := by
  cases hx with
  | unk h => exact .inl h
  | nili h => exact .inr h
theorem VR.view_agg {x : V} {a : Array Value} (hx : VR φ x (.agg a)) : x.view = .unk ∨ ∃ l, x.view = .agg l := by
  cases hx with
  | unk h => exact .inl h
  | agg h hl => exact .inr ⟨_, h⟩
theorem eqGuard_run {t : TypeId} {k : EqK} (ht : EqTy P t k) (neg : Bool) (X Y : Operand) {x y : V} {c d : Value} (hx : VR φ x c) (hy : VR φ y d) {r : Bool}
    (hr : aeq k x y = some r) (hc : k = .iface → (isConst X || isConst Y) = true) : (eqGuard (if neg then .neq else .eql) t X Y c d).run P w = .ok () w := by
  have key : ∀ (op : BinOp) (c d : Value), (op = .eql ∨ op = .neq) → (c = .nilIface ∧ d = .nilIface → (isConst X || isConst Y) = true) → (∀ a b, c = .agg a ∧ d = .agg b → P.eqGuardType P.depth t = false) → (eqGuard op t X Y c d).run P w = .ok () w := by
    intro op c d hop h1 h2
    unfold eqGuard
    rw [if_neg (by rcases hop with rfl | rfl <;> decide)]
    split
    · have h3 := h1 ⟨rfl, rfl⟩
      cases X <;> cases Y <;> first | rfl | (simp [isConst] at h3)
    · simp [h2 _ _ ⟨rfl, rfl⟩]
    · rfl
  refine key _ c d (by cases neg <;> simp) ?_ ?_
  · rintro ⟨rfl, rfl⟩
    rcases hx.view_nili with h1 | h1 <;> cases k with
    | iface => exact hc rfl
    | leaf k => cases k <;> simp [aeq, aeqS, h1] at hr
    | _ => simp [aeq, h1] at hr
  · rintro a b ⟨rfl, rfl⟩
    rcases hx.view_agg with h1 | ⟨l, h1⟩ <;> cases k with
    | flat ks => exact ht.guard
    | leaf k => cases k <;> simp [aeq, aeqS, h1] at hr
    | _ => simp [aeq, h1] at hr
theorem binOp_own {k : EqK} (ho : k.own = true) {x y : V} {c d : Value} (hx : VR φ x c) (hy : VR φ y d) {r : Bool} (hr : aeq k x y = some r) (t : TypeId) :
    binOp .eql t c d = (do pure (.bool (← Op.equal t c d))) ∧ binOp .neq t c d = (do pure (.bool (!(← Op.equal t c d)))) := by
  cases k with
  | leaf k =>
    simp only [aeq, aeqS] at hr
    split at hr <;> first | cases hr | skip
    · rename_i h1 h2; cases hx.bool_inv h1; exact ⟨rfl, rfl⟩
    · cases ho
    · cases ho
    · rename_i h1 h2; cases hx.nilp_inv h1; cases hy.nilp_inv h2; exact ⟨rfl, rfl⟩
    · rename_i h1 h2; cases hx.nilp_inv h1; obtain ⟨_, _, rfl⟩ := hy.ptr_inv h2; exact ⟨rfl, rfl⟩
    · rename_i h1 h2; obtain ⟨_, _, rfl⟩ := hx.ptr_inv h1; cases hy.nilp_inv h2; exact ⟨rfl, rfl⟩
    · rename_i h1 h2; obtain ⟨_, _, rfl⟩ := hx.ptr_inv h1; obtain ⟨_, _, rfl⟩ := hy.ptr_inv h2; exact ⟨rfl, rfl⟩
  | flat ks =>
    simp only [aeq] at hr
    split at hr
    · rename_i h1 h2; obtain ⟨_, rfl, _⟩ := hx.agg_inv h1; obtain ⟨_, rfl, _⟩ := hy.agg_inv h2; exact ⟨rfl, rfl⟩
    · cases hr
  | sl =>
    simp only [aeq] at hr
    split at hr <;> first | cases hr | skip
    · rename_i h1 h2; cases hx.nils_inv h1; exact ⟨rfl, rfl⟩
    · rename_i h1 h2; cases hx.nils_inv h1; exact ⟨rfl, rfl⟩
    · rename_i h1 h2; obtain ⟨_, _, _, _, rfl, _⟩ := hx.sl_inv h1; exact ⟨rfl, rfl⟩
  | mp =>
    simp only [aeq] at hr
    split at hr <;> first | cases hr | skip
    · rename_i h1 h2; cases hx.nilm_inv h1; exact ⟨rfl, rfl⟩
    · rename_i h1 h2; cases hx.nilm_inv h1; exact ⟨rfl, rfl⟩
    · rename_i h1 h2; obtain ⟨_, _, rfl⟩ := hx.mp_inv h1; exact ⟨rfl, rfl⟩
  | fn =>
    simp only [aeq] at hr
    split at hr <;> first | cases hr | skip
    · rename_i h1 h2; cases hx.nilf_inv h1; exact ⟨rfl, rfl⟩
    · rename_i h1 h2; cases hx.nilf_inv h1; exact ⟨rfl, rfl⟩
    · rename_i h1 h2; obtain ⟨_, _, rfl, _⟩ := hx.fn_inv h1; exact ⟨rfl, rfl⟩
  | iface =>
    simp only [aeq] at hr
    split at hr <;> first | cases hr | skip
    · rename_i h1 h2; cases hx.nili_inv h1; exact ⟨rfl, rfl⟩
    · rename_i h1 h2; cases hx.nili_inv h1; exact ⟨rfl, rfl⟩
    · rename_i h1 h2; obtain ⟨_, rfl, _⟩ := hx.iface_inv h1; exact ⟨rfl, rfl⟩
theorem eq_run {t : TypeId} {k : EqK} (ht : EqTy P t k) (ho : k.own = true) (neg : Bool) (X Y : Operand) {x y : V} {c d : Value} (hx : VR φ x c) (hy : VR φ y d) {r : Bool}
    (hr : aeq k x y = some r) (hc : k = .iface → (isConst X || isConst Y) = true) :
    ((do eqGuard (if neg then .neq else .eql) t X Y c d; binOp (if neg then .neq else .eql) t c d : Sem Value)).run P w = .ok (.bool (r != neg)) w := by
  have h1 := eqGuard_run (w := w) ht neg X Y hx hy hr hc
  obtain ⟨h2, h3⟩ := binOp_own ho hx hy hr t
  have h4 := equal_run (w := w) ht hx hy hr
  cases neg
  · simp only [Bool.false_eq_true, if_false] at h1 ⊢
    simp only [Sem.run_bind, h1, Result.andThen, h2, h4, Sem.run_pure]
    cases r <;> rfl
  · simp only [if_true] at h1 ⊢
    simp only [Sem.run_bind, h1, Result.andThen, h3, h4, Sem.run_pure]
    cases r <;> rfl
theorem same_now {t : TypeId} {kt : EqK} (ht : EqTy P t kt) {d : TypeDesc} (hd : P.underlying t = some d) {x y : V} {c e : Value} (hx : VR φ x c) (hy : VR φ y e) {r : Bool}
    (hr : aeq kt x y = some r) {r' : Bool} (hs : Instr.sameNow d c e = some r') : r' = r := by
  cases kt with
  | leaf k =>
    simp only [aeq, aeqS] at hr
    split at hr <;> first | cases hr | skip
    · rename_i a b h1 h2
      cases hx.bool_inv h1; cases hy.bool_inv h2
      have ht : P.underlying t = some .bool := ht
      rw [hd] at ht; cases ht
      simpa [Instr.sameNow] using hs.symm
    · rename_i j a k' b h1 h2
      obtain ⟨κ, m, rfl, rfl, rfl⟩ := hx.int_inv h1
      obtain ⟨κ', m', rfl, rfl, rfl⟩ := hy.int_inv h2
      obtain ⟨k0, ht⟩ := ht
      rw [hd] at ht; cases ht
      split at hr
      · rename_i hk
        have : κ = κ' := by have := congrArg kOf hk; simpa [kOf_kTo] using this
        subst this
        have hr := Option.some.inj hr
        simp only [Instr.sameNow, if_true] at hs
        have hs := Option.some.inj hs
        rw [← hs, ← hr, Bool.eq_iff_iff]
        simp only [beq_iff_eq]
        constructor
        · intro e; unfold dI at e; omega
        · intro e; rw [e]
      · cases hr
    · rename_i l s m s' h1 h2
      obtain ⟨s1, rfl, e1, e2⟩ := hx.str_inv h1
      obtain ⟨s2, rfl, e3, e4⟩ := hy.str_inv h2
      have ht : P.underlying t = some .string := ht
      rw [hd] at ht; cases ht
      simp only [Instr.sameNow] at hs
      have hs := Option.some.inj hs
      rw [← hs, beq_str, str_eq e1 e2 e3 e4]
    · obtain ⟨_, _, ht, _⟩ := ht; rw [hd] at ht; cases ht; cases hs
    · obtain ⟨_, _, ht, _⟩ := ht; rw [hd] at ht; cases ht; cases hs
    · obtain ⟨_, _, ht, _⟩ := ht; rw [hd] at ht; cases ht; cases hs
    · obtain ⟨_, _, ht, _⟩ := ht; rw [hd] at ht; cases ht; cases hs
  | flat ks => have := ht.desc; rw [hd] at this; cases this; cases hs
  | sl => obtain ⟨_, ht⟩ := ht; rw [hd] at ht; cases ht; cases hs
  | mp => obtain ⟨_, _, ht⟩ := ht; rw [hd] at ht; cases ht; cases hs
  | fn => obtain ⟨_, _, _, ht⟩ := ht; rw [hd] at ht; cases ht; cases hs
  | iface => obtain ⟨_, ht⟩ := ht; rw [hd] at ht; cases ht; cases hs
inductive Found (φ : Phi) (kt : EqK) (x : V) (es : List E) (ces : List MapEntry) : Nat → Option E → Option (Nat × Value) → Prop
  | no {i} : Found φ kt x es ces i none none
  | yes {i j e ce} (h1 : es[j]? = some e) (h2 : ces[j]? = some ce) (h3 : ER φ e ce) (h4 : aeq kt x e.key = some true)
      (h5 : ∀ (m : Nat) (e' : E), m < j → es[m]? = some e' → aeq kt x e'.key = some false) : Found φ kt x es ces i (some e) (some (i + j, ce.val))
theorem Found.cons {kt : EqK} {x : V} {es : List E} {ces : List MapEntry} {i : Nat} {r : Option E} {q : Option (Nat × Value)} (hf : Found φ kt x es ces (i + 1) r q) {e0 : E} {ce0 : MapEntry}
    (h0 : aeq kt x e0.key = some false) : Found φ kt x (e0 :: es) (ce0 :: ces) i r q := by
  cases hf with
  | no => exact .no
  | yes g1 g2 g3 g4 g5 =>
    rename_i j e' ce'
    rw [show i + 1 + j = i + (j + 1) by omega]
    refine .yes (j := j + 1) (by simpa using g1) (by simpa using g2) g3 g4 fun m e' hm he' => ?_
    cases m with
    | zero => simp at he'; subst he'; exact h0
    | succ m => exact g5 m e' (by omega) (by simpa using he')
theorem findNow_run {t : TypeId} {kt : EqK} (ht : EqTy P t kt) {d : TypeDesc} (hd : P.underlying t = some d) {x : V} {c : Value} (hx : VR φ x c) :
    ∀ {es : List E} {ces : List MapEntry}, ERL φ es ces → ∀ (r : Option E) (i : Nat) (q : Option (Nat × Value)), findE kt x es = some r → Instr.findNow d c ces i = some q → Found φ kt x es ces i r q := by
  intro es ces hE
  induction hE with
  | nil => intro r i q h1 h2; simp only [findE] at h1; simp only [Instr.findNow] at h2; cases h1; cases h2; exact .no
  | @cons e ce es ces he _ ih =>
    intro r i q h1 h2
    simp only [findE] at h1
    simp only [Instr.findNow] at h2
    cases hs : Instr.sameNow d c ce.key with
    | none => rw [hs] at h2; cases h2
    | some b =>
      rw [hs] at h2
      cases ha : aeq kt x e.key with
      | none => rw [ha] at h1; cases h1
      | some b' =>
        have := same_now ht hd hx he.key ha hs
        subst this
        rw [ha] at h1
        cases b with
        | true =>
          cases h1; cases h2
          exact .yes (j := 0) rfl rfl he ha (fun m _ hm => by omega)
        | false => exact (ih r (i + 1) q h1 h2).cons ha
theorem findAsking_run {t : TypeId} {kt : EqK} (ht : EqTy P t kt) {x : V} {c : Value} (hx : VR φ x c) :
    ∀ {es : List E} {ces : List MapEntry}, ERL φ es ces → ∀ (r : Option E) (i : Nat), findE kt x es = some r → ∃ q, (Instr.findAsking t c ces i).run P w = .ok q w ∧ Found φ kt x es ces i r q := by
  intro es ces hE
  induction hE with
  | nil => intro r i h1; simp only [findE] at h1; cases h1; exact ⟨none, rfl, .no⟩
  | @cons e ce es ces he _ ih =>
    intro r i h1
    simp only [findE] at h1
    cases ha : aeq kt x e.key with
    | none => rw [ha] at h1; cases h1
    | some b =>
      have hq := equal_run (w := w) ht hx he.key ha
      rw [ha] at h1
      cases b with
      | true =>
        cases h1
        refine ⟨some (i, ce.val), ?_, .yes (j := 0) rfl rfl he ha (fun m _ hm => by omega)⟩
        simp [Instr.findAsking, hq]
      | false =>
        obtain ⟨q, hq2, hf⟩ := ih r (i + 1) h1
        refine ⟨q, ?_, hf.cons ha⟩
        simp [Instr.findAsking, hq, hq2]
theorem EqTy.desc {t : TypeId} {kt : EqK} (ht : EqTy P t kt) : ∃ d, P.underlying t = some d := by
  cases kt with
  | leaf k => cases k with
    | bool => exact ⟨_, ht⟩
    | int => obtain ⟨_, ht⟩ := ht; exact ⟨_, ht⟩
    | str => exact ⟨_, ht⟩
    | ptr => obtain ⟨_, _, ht, _⟩ := ht; exact ⟨_, ht⟩
  | flat ks => exact ⟨_, FlatTy.desc ht⟩
  | sl => obtain ⟨_, ht⟩ := ht; exact ⟨_, ht⟩
  | mp => obtain ⟨_, _, ht⟩ := ht; exact ⟨_, ht⟩
  | fn => obtain ⟨_, _, _, ht⟩ := ht; exact ⟨_, ht⟩
  | iface => obtain ⟨_, ht⟩ := ht; exact ⟨_, ht⟩
theorem findKey_run {t : TypeId} {kt : EqK} (ht : EqTy P t kt) {x : V} {c : Value} (hx : VR φ x c) {es : List E} {ces : List MapEntry} (hE : ERL φ es ces) {r : Option E} (h1 : findE kt x es = some r) :
    ∃ q, (Instr.findKey t c ces).run P w = .ok q w ∧ Found φ kt x es ces 0 r q := by
  obtain ⟨d, hd⟩ := ht.desc
  have hu : (underlying t).run P w = .ok d w := by simp [underlying, hd]
  cases hn : Instr.findNow d c ces 0 with
  | some q => exact ⟨q, by simp [Instr.findKey, hu, hn], findNow_run ht hd hx hE r 0 q h1 hn⟩
  | none =>
    obtain ⟨q, hq, hf⟩ := findAsking_run (w := w) ht hx hE r 0 h1
    exact ⟨q, by simp [Instr.findKey, hu, hn, hq], hf⟩
theorem checkKey_leaf {t : TypeId} {k : LK} (ht : LeafTy P t k) (em : Bool) (n : Nat) {v : V} {c : Value} (hv : VR φ v c) (hk : leafOk k v = true) :
    (Instr.checkKey em (n + 1) t c).run P w = .ok () w := by
  have hd : ∃ d, P.underlying t = some d ∧ (d = .bool ∨ (∃ κ, d = .int κ) ∨ d = .string ∨ ∃ e, d = .pointer e) := by
    cases k with
    | bool => exact ⟨_, ht, .inl rfl⟩
    | int => obtain ⟨κ, ht⟩ := ht; exact ⟨_, ht, .inr (.inl ⟨κ, rfl⟩)⟩
    | str => exact ⟨_, ht, .inr (.inr (.inl rfl))⟩
    | ptr => obtain ⟨e, _, ht, _⟩ := ht; exact ⟨_, ht, .inr (.inr (.inr ⟨e, rfl⟩))⟩
  obtain ⟨d, hu, hd⟩ := hd
  have hu' : (underlying t).run P w = .ok d w := by simp [underlying, hu]
  simp only [Instr.checkKey, Sem.run_bind, hu', Result.andThen]
  rcases hd with rfl | ⟨κ, rfl⟩ | rfl | ⟨e, rfl⟩ <;> rfl
theorem checkKey_fields (em : Bool) (n : Nat) (xs : Array Value) : ∀ (fs : List Field) (ks : List LK) (vs : List V) (off : Nat), fs.length = ks.length →
    (∀ (i : Nat) (f : Field) (k : LK), fs[i]? = some f → ks[i]? = some k → f.name ≠ "_" ∧ f.offset = off + i ∧ LeafTy P f.type k) →
    VRL φ vs (xs.toList.drop off) → leafsOk ks vs = true →
    (forIn fs (PUnit.unit : PUnit) (fun f _ => do
      if f.name ≠ "_" then Instr.checkKey em (n + 1) f.type (← part f.type xs f.offset); pure (ForInStep.yield PUnit.unit)
      else pure (ForInStep.yield PUnit.unit) : Field → PUnit → Sem (ForInStep PUnit))).run P w = .ok PUnit.unit w := by
  intro fs
  induction fs with
  | nil => intro ks vs off _ _ _ _; rfl
  | cons f fs ih =>
    intro ks vs off hl hf hv hk
    cases ks with
    | nil => simp at hl
    | cons k ks =>
      cases vs with
      | nil => simp [leafsOk] at hk
      | cons v vs =>
        generalize hdx : xs.toList.drop off = dx at hv
        cases hv with
        | cons hv1 hv2 =>
          rename_i c cs1
          simp only [leafsOk, Bool.and_eq_true] at hk
          obtain ⟨hn, ho, hlt⟩ := hf 0 f k rfl rfl
          have hx : xs[off]? = some c := by
            have : (xs.toList.drop off)[0]? = some c := by rw [hdx]; rfl
            rw [List.getElem?_drop] at this
            simpa using this
          have hx2 : xs.toList.drop (off + 1) = cs1 := by rw [← List.drop_drop, hdx]; rfl
          have hof : f.offset = off := by omega
          have hp := part_leaf (P := P) (w := w) hlt hx
          have hck := checkKey_leaf (w := w) hlt em n hv1 hk.1
          have := ih ks vs (off + 1) (by simpa using hl) (fun i f' k' h1 h2 => by
              obtain ⟨p1, p2, p3⟩ := hf (i + 1) f' k' (by simpa using h1) (by simpa using h2)
              exact ⟨p1, by omega, p3⟩) (by rw [hx2]; exact hv2) hk.2
          simp only [List.forIn_cons, hn, ne_eq, not_false_eq_true, if_true, hof, Sem.run_bind, hp, Result.andThen, hck, Sem.run_pure]
          exact this
theorem checkKey_run {t : TypeId} {kt : EqK} (ht : EqTy P t kt) (em : Bool) (n : Nat) {v : V} {c : Value} (hv : VR φ v c) (hk : keyOk kt v = true) :
    (Instr.checkKey em (n + 2) t c).run P w = .ok () w := by
  cases kt with
  | leaf k => exact checkKey_leaf ht em (n + 1) hv hk
  | flat ks =>
    simp only [keyOk] at hk
    split at hk
    · rename_i l hview
      obtain ⟨xs, rfl, hl⟩ := hv.agg_inv hview
      have ht : FlatTy P t ks := ht
      have hu : (underlying t).run P w = .ok (.struct (P.fieldsOf t)) w := by simp [underlying, ht.desc]
      have := checkKey_fields (P := P) (φ := φ) (w := w) em n xs (P.fieldsOf t).toList ks l 0 ht.size (fun i f k h1 h2 => by simpa using ht.field i f k h1 h2) (by simpa using hl) hk
      rw [Instr.checkKey]
      simp only [Sem.run_bind, hu, Result.andThen]
      rw [← Array.forIn_toList, this]
      rfl
    · cases hk
  | _ => simp [keyOk] at hk
end Go.Eng
end
section
namespace Go.Eng
variable {P : Program} {cs : Nat → Option CSite} {φ : Phi} {h : H} {w : World}
theorem map_blk (hr : HR cs φ h w) {b : Id} {cb : CB} (hb : φ b = some cb) {es : List E} {clk : Nat} (hv : (h.blk b).view = .map es clk) :
    ∃ ces, w.heap[cb.blk]? = some (.map ces clk) ∧ ERL φ es ces.toList := by
  have := hr.blks b cb hb
  rw [hv] at this
  exact this
theorem run_getMap {r : Nat} {ces : Array MapEntry} {clk : Nat} (hm : w.heap[r]? = some (.map ces clk)) : (getObj r).run P w = .ok (.map ces clk) w := by
  simp [getObj, Sem.run, hm]
def setMap (w : World) (r : Nat) (ces : Array MapEntry) (clk : Nat) : World := { w with heap := w.heap.setIfInBounds r (.map ces clk) }
theorem run_setMap {r : Nat} {ces ces' : Array MapEntry} {clk clk' : Nat} (hm : w.heap[r]? = some (.map ces clk)) :
    (setObj r (.map ces' clk')).run P w = .ok () (setMap w r ces' clk') := by
  simp [setObj, Sem.run, hm, setMap]
theorem setMap_get {r : Nat} {ces ces' : Array MapEntry} {clk clk' : Nat} (hm : w.heap[r]? = some (.map ces clk)) : (setMap w r ces' clk').heap[r]? = some (.map ces' clk') := by
  have : r < w.heap.size := by
    rcases Nat.lt_or_ge r w.heap.size with hlt | hge
    · exact hlt
    · rw [Array.getElem?_eq_none hge] at hm; cases hm
  simp [setMap, this]
theorem setMap_other {r B : Nat} {ces' : Array MapEntry} {clk' : Nat} (hB : B ≠ r) : (setMap w r ces' clk').heap[B]? = w.heap[B]? := by
  simp only [setMap]
  rw [Array.getElem?_setIfInBounds_ne (Ne.symm hB)]
theorem put_map (hr : HR cs φ h w) {b : Id} {cb : CB} (hb : φ b = some cb) {es es' : List E} {clk clk' : Nat} (hv : (h.blk b).view = .map es clk) {ces : Array MapEntry}
    (hm : w.heap[cb.blk]? = some (.map ces clk)) {ces' : Array MapEntry} (hE : ERL φ es' ces'.toList) :
    HR cs φ (h.put b (bMap es' clk')) (setMap w cb.blk ces' clk') ∧ Ext φ h w φ (h.put b (bMap es' clk')) (setMap w cb.blk ces' clk') := by
  refine ⟨hr.put hb (by rw [hv]; rfl) (fun B hB => setMap_other hB) ⟨ces', setMap_get hm, hE⟩, Ext.put hb (by rw [hv]; rfl) (fun B hB => setMap_other hB) (by simp [setMap]) rfl rfl rfl⟩
theorem ERL.append {es : List E} {cs : List MapEntry} {es' : List E} {cs' : List MapEntry} (h : ERL φ es cs) (h' : ERL φ es' cs') : ERL φ (es ++ es') (cs ++ cs') := by
  induction h with
  | nil => exact h'
  | cons he _ ih => exact .cons he ih
theorem ERL.length {es : List E} {cs : List MapEntry} (h : ERL φ es cs) : es.length = cs.length := by
  induction h with
  | nil => rfl
  | cons _ _ ih => simp [ih]
structure MapTy (P : Program) (t : TypeId) (kt et : TypeId) (k : EqK) (i : TyI) : Prop where
  desc : P.underlying t = some (.map kt et)
  key : EqTy P kt k
  elem : TyOK P et i
theorem lookup_run (hr : HR cs φ h w) {t kt et : TypeId} {k : EqK} {i : TyI} (ht : MapTy P t kt et k i) {z : V} (hz : i.zero = some z) (ok : Bool) {x y v : V} {c d : Value} {h' : H}
    (hx : VR φ x c) (hy : VR φ y d) {tm : T} {X Y : IX} (eX : ev tm X = x) (eY : ev tm Y = y) (hb : opA tm h (.lookup k z ok X Y) = .val v h') :
    h' = h ∧ ∃ r, (Instr.lookup t c d ok).run P w = .ok r w ∧ VR φ v r := by
  simp only [opA, eX, eY] at hb
  have hu : (underlying t).run P w = .ok (.map kt et) w := by simp [underlying, ht.desc]
  obtain ⟨zc, hzr, hzv⟩ := run_zeroValue (P := P) (w := w) ht.elem hz
  have key : ∀ (es : List E) (ces : Array MapEntry), ERL φ es ces.toList →
      mapOf h x = some es →
      (c = .map none ∧ ces = #[] ∨ ∃ r clk, c = .map (some r) ∧ w.heap[r]? = some (.map ces clk)) →
      h' = h ∧ ∃ r, (Instr.lookup t c d ok).run P w = .ok r w ∧ VR φ v r := by
    intro es ces hE he hc
    rw [he] at hb
    simp only at hb
    split at hb
    · rename_i hk
      have hck : (Instr.checkKey ces.isEmpty 10000 kt d).run P w = .ok () w := checkKey_run ht.key ces.isEmpty 9998 hy hk
      cases hf : findE k y es with
      | none => rw [hf] at hb; cases hb
      | some fe =>
        rw [hf] at hb
        obtain ⟨q, hq, hfd⟩ := findKey_run (w := w) ht.key hy hE hf
        cases hfd with
        | no =>
          cases hb
          refine ⟨rfl, if ok then .tuple #[zc, .bool false] else zc, ?_, ?_⟩
          · rcases hc with ⟨rfl, rfl⟩ | ⟨r, clk, rfl, hm⟩
            · simp only [Instr.lookup, Sem.run_bind, hu, Result.andThen, hck, hq, hzr, Sem.run_pure]
            · simp only [Instr.lookup, Sem.run_bind, hu, Result.andThen, run_getMap hm, hck, hq, hzr, Sem.run_pure]
          · cases ok
            · exact hzv φ
            · exact .tup (view_tup _) (.cons (hzv φ) (.cons (.bool (view_bool _)) .nil))
        | yes g1 g2 g3 g4 g5 =>
          cases hb
          rename_i j e ce
          refine ⟨rfl, if ok then .tuple #[ce.val, .bool true] else ce.val, ?_, ?_⟩
          · rcases hc with ⟨rfl, rfl⟩ | ⟨r, clk, rfl, hm⟩
            · simp only [Instr.lookup, Sem.run_bind, hu, Result.andThen, hck, hq, Sem.run_pure]
            · simp only [Instr.lookup, Sem.run_bind, hu, Result.andThen, run_getMap hm, hck, hq, Sem.run_pure]
          · cases ok
            · exact g3.val
            · exact .tup (view_tup _) (.cons g3.val (.cons (.bool (view_bool _)) .nil))
    · cases hb
  cases hv : x.view with
  | nilm =>
    cases hx.nilm_inv hv
    exact key [] #[] .nil (by simp only [mapOf, hv]) (.inl ⟨rfl, rfl⟩)
  | mp b =>
    obtain ⟨cb, hb', rfl⟩ := hx.mp_inv hv
    cases hbv : (h.blk b).view with
    | map es clk =>
      obtain ⟨ces, hm, hE⟩ := map_blk hr hb' hbv
      refine key es ces hE (by simp only [mapOf, hv, hbv]) (.inr ⟨_, _, rfl, hm⟩)
    | _ => simp only [mapOf, hv, hbv] at hb; cases hb
  | _ => simp only [mapOf, hv] at hb; cases hb
theorem same_leaf {k : LK} {x y : V} {c d : Value} (hx : VR φ x c) (hy : VR φ y d) (hk : leafOk k x = true) (hr : aeqS k x y = some true) (n : Nat) : Instr.sameBits n d c = true := by
  unfold leafOk at hk
  split at hk
  · rename_i b h1
    cases hx.bool_inv h1
    cases h3 : y.view <;> simp only [aeqS, h1, h3] at hr <;> first | cases hr | skip
    rename_i b'
    cases hy.bool_inv h3
    have := Option.some.inj hr
    simp only [beq_iff_eq] at this
    cases n <;> simp [Instr.sameBits, this]
  · rename_i j a h1
    obtain ⟨κ, m, rfl, rfl, rfl⟩ := hx.int_inv h1
    cases h3 : y.view <;> simp only [aeqS, h1, h3] at hr <;> first | cases hr | skip
    rename_i k' b
    obtain ⟨κ', m', rfl, rfl, rfl⟩ := hy.int_inv h3
    split at hr
    · rename_i hk'
      have hkk : κ = κ' := by have := congrArg kOf hk'; simpa [kOf_kTo] using this
      have := Option.some.inj hr
      simp only [beq_iff_eq] at this
      cases n <;> simp [Instr.sameBits, this, hkk]
    · cases hr
  · rename_i l s h1
    obtain ⟨s1, rfl, e1, e2⟩ := hx.str_inv h1
    cases h3 : y.view <;> simp only [aeqS, h1, h3] at hr <;> first | cases hr | skip
    rename_i m s'
    obtain ⟨s2, rfl, e3, e4⟩ := hy.str_inv h3
    have := Option.some.inj hr
    rw [← str_eq e1 e2 e3 e4] at this
    have this : s1.toList = s2.toList := by simpa using this
    have h4 : (s2 == s1) = true := by rw [beq_str, this]; simp
    cases n <;> simp only [Instr.sameBits, h4]
  · cases hk
theorem same_leaves {n : Nat} : ∀ (ks : List LK) (as bs : List V) (xs ys : List Value), VRL φ as xs → VRL φ bs ys → leafsOk ks as = true → aeqL ks as bs = some true →
    ys.length = xs.length ∧ (ys.zip xs).all (fun (x, y) => Instr.sameBits n x y) = true
  | [], [], [], xs, ys, ha, hb, _, _ => by cases ha; cases hb; simp
  | k :: ks, a :: as, b :: bs, xs, ys, ha, hb, hk, hr => by
    cases ha with
    | cons ha1 ha2 =>
      cases hb with
      | cons hb1 hb2 =>
        simp only [leafsOk, Bool.and_eq_true] at hk
        simp only [aeqL] at hr
        cases hs : aeqS k a b with
        | none => rw [hs] at hr; cases hr
        | some r =>
          rw [hs] at hr
          cases r with
          | false => cases hr
          | true =>
            obtain ⟨h1, h2⟩ := same_leaves (n := n) ks as bs _ _ ha2 hb2 hk.2 hr
            have h3 := same_leaf ha1 hb1 hk.1 hs n
            simp only [List.length_cons, h1, List.zip_cons_cons, List.all_cons, h2, Bool.and_true]
            exact ⟨trivial, h3⟩
  | [], _ :: _, _, _, _, _, _, hk, _ => by simp [leafsOk] at hk
  | _ :: _, [], _, _, _, _, _, hk, _ => by simp [leafsOk] at hk
  | [], [], _ :: _, _, _, _, _, _, hr => by simp [aeqL] at hr
  | _ :: _, _ :: _, [], _, _, _, _, _, hr => by simp [aeqL] at hr
theorem same_key {kt : EqK} {x y : V} {c d : Value} (hx : VR φ x c) (hy : VR φ y d) (hk : keyOk kt x = true) (hr : aeq kt x y = some true) (n : Nat) : Instr.sameBits (n + 1) d c = true := by
  cases kt with
  | leaf k => exact same_leaf hx hy hk hr _
  | flat ks =>
    simp only [keyOk] at hk
    split at hk
    · rename_i l hv
      obtain ⟨xs, rfl, hl⟩ := hx.agg_inv hv
      simp only [aeq, hv] at hr
      split at hr
      · rename_i a b h1 h2
        cases h1
        obtain ⟨ys, rfl, hl2⟩ := hy.agg_inv h2
        split at hr
        · obtain ⟨h3, h4⟩ := same_leaves (n := n) ks _ _ _ _ hl hl2 hk hr
          simp only [Array.length_toList] at h3
          simp only [Instr.sameBits, h3, beq_self_eq_true, Bool.true_and]
          exact h4
        · cases hr
      · cases hr
    · cases hk
  | _ => simp [keyOk] at hk
theorem updE_run {kt : EqK} {x : V} {c : Value} (hx : VR φ x c) {nv : Option V} {f : MapEntry → MapEntry} (hf : ∀ e ce, ER φ e ce → ER φ ⟨x, nv.getD e.val, e.born⟩ (f ce)) :
    ∀ {es : List E} {ces : List MapEntry}, ERL φ es ces → ∀ (e : E) (j : Nat), es[j]? = some e → aeq kt x e.key = some true →
    (∀ (m : Nat) (e' : E), m < j → es[m]? = some e' → aeq kt x e'.key = some false) → ERL φ (updE kt x nv es) (ces.modify j f) := by
  intro es ces hE
  induction hE with
  | nil => intro e j h3; simp at h3
  | @cons e0 ce0 es ces he hs ih =>
    intro e j h3 h6 h4
    cases j with
    | zero =>
      simp at h3
      subst h3
      simp only [updE, h6, List.modify_zero_cons]
      exact .cons (hf _ _ he) hs
    | succ j =>
      have h7 := h4 0 e0 (by omega) rfl
      simp only [updE, h7, List.modify_succ_cons]
      exact .cons he (ih e j (by simpa using h3) h6 (fun m e' hm he' => h4 (m + 1) e' (by omega) (by simpa using he')))
theorem mapUpdate_run (hr : HR cs φ h w) {t kt et : TypeId} {k : EqK} (hd : P.underlying t = some (.map kt et)) (ht : EqTy P kt k) {x y z v : V} {c d e : Value} {h' : H}
    (hx : VR φ x c) (hy : VR φ y d) (hz : VR φ z e) {tm : T} {X Y Z : IX} (eX : ev tm X = x) (eY : ev tm Y = y) (eZ : ev tm Z = z) (hb : opA tm h (.mapUpdate k X Y Z) = .val v h') :
    v = vUnk ∧ ∃ w', (Instr.mapUpdate t c d e).run P w = .ok () w' ∧ HR cs φ h' w' ∧ Ext φ h w φ h' w' := by
  simp only [opA, eX, eY, eZ] at hb
  have hu : (underlying t).run P w = .ok (.map kt et) w := by simp [underlying, hd]
  split at hb
  · rename_i b hv
    obtain ⟨cb, hb', rfl⟩ := hx.mp_inv hv
    split at hb
    · rename_i es clk hbv
      obtain ⟨ces, hm, hE⟩ := map_blk hr hb' hbv
      split at hb
      · rename_i hk
        have hck : (Instr.checkKey false 10000 kt d).run P w = .ok () w := checkKey_run ht false 9998 hy hk
        cases hf : findE k y es with
        | none => rw [hf] at hb; cases hb
        | some fe =>
          rw [hf] at hb
          obtain ⟨q, hq, hfd⟩ := findKey_run (w := w) ht hy hE hf
          cases hfd with
          | no =>
            cases hb
            obtain ⟨g1, g2⟩ := put_map (es' := es ++ [⟨y, z, clk⟩]) (clk' := clk + 1) (ces' := ces.push { key := d, val := e, born := clk }) hr hb' hbv hm
              (by simpa using hE.append (.cons ⟨hy, hz, rfl⟩ .nil))
            refine ⟨rfl, _, ?_, g1, g2⟩
            simp only [Instr.mapUpdate, Sem.run_bind, hu, Result.andThen, run_getMap hm, hck, hq, run_setMap hm]
          | yes p1 p2 p3 p4 p5 =>
            rename_i j e0 ce
            cases hb
            have hj : ces[j]? = some ce := by simpa using p2
            have hsb : Instr.sameBits 10000 ce.key d = true := same_key hy p3.key hk p4 9999
            obtain ⟨g1, g2⟩ := put_map (es' := updE k y (some z) es) (clk' := clk) (ces' := ces.modify j fun e' => { e' with key := d, val := e }) hr hb' hbv hm
              (by rw [Array.toList_modify]; exact updE_run hy (nv := some z) (f := fun e' => { e' with key := d, val := e }) (fun a b hab => ⟨hy, hz, hab.born⟩) hE e0 j p1 p4 p5)
            refine ⟨rfl, _, ?_, g1, g2⟩
            simp only [Instr.mapUpdate, Sem.run_bind, hu, Result.andThen, run_getMap hm, hck, hq, Nat.zero_add, hj, Option.map_some, Option.getD_some, Instr.keyThatStays, hsb, if_true, Sem.run_pure, run_setMap hm]
      · cases hb
    · cases hb
  · cases hb
theorem mapEntry_run (hr : HR cs φ h w) {t kt et : TypeId} {k : EqK} {i : TyI} (ht : MapTy P t kt et k i) {z : V} (hz : i.zero = some z) {x y v : V} {c d : Value} {h' : H}
    (hx : VR φ x c) (hy : VR φ y d) {tm : T} {X Y : IX} (eX : ev tm X = x) (eY : ev tm Y = y) (hb : opA tm h (.mapEntry k z X Y) = .val v h') :
    ∃ r w', (Instr.mapEntry t c d).run P w = .ok r w' ∧ HR cs φ h' w' ∧ Ext φ h w φ h' w' ∧ VR φ v r := by
  simp only [opA, eX, eY] at hb
  have hu : (underlying t).run P w = .ok (.map kt et) w := by simp [underlying, ht.desc]
  obtain ⟨zc, hzr, hzv⟩ := run_zeroValue (P := P) (w := w) ht.elem hz
  split at hb
  · rename_i b hv
    obtain ⟨cb, hb', rfl⟩ := hx.mp_inv hv
    split at hb
    · rename_i es clk hbv
      obtain ⟨ces, hm, hE⟩ := map_blk hr hb' hbv
      split at hb
      · rename_i hk
        have hck : (Instr.checkKey false 10000 kt d).run P w = .ok () w := checkKey_run ht.key false 9998 hy hk
        cases hf : findE k y es with
        | none => rw [hf] at hb; cases hb
        | some fe =>
          rw [hf] at hb
          obtain ⟨q, hq, hfd⟩ := findKey_run (w := w) ht.key hy hE hf
          cases hfd with
          | no =>
            cases hb
            obtain ⟨g1, g2⟩ := put_map (es' := es ++ [⟨y, z, clk⟩]) (clk' := clk + 1) (ces' := ces.push { key := d, val := zc, born := clk }) hr hb' hbv hm
              (by simpa using hE.append (.cons ⟨hy, hzv φ, rfl⟩ .nil))
            refine ⟨_, _, ?_, g1, g2, .tup (view_tup _) (.cons (hzv φ) (.cons (.i64 clk) .nil))⟩
            simp only [Instr.mapEntry, Sem.run_bind, hu, Result.andThen, run_getMap hm, hck, hq, hzr, run_setMap hm, Sem.run_pure]
          | yes p1 p2 p3 p4 p5 =>
            rename_i j e0 ce
            cases hb
            have hj : ces[j]? = some ce := by simpa using p2
            have hsb : Instr.sameBits 10000 ce.key d = true := same_key hy p3.key hk p4 9999
            obtain ⟨g1, g2⟩ := put_map (es' := updE k y none es) (clk' := clk) (ces' := ces.modify j fun e' => { e' with key := d }) hr hb' hbv hm
              (by rw [Array.toList_modify]; exact updE_run hy (nv := none) (f := fun e' => { e' with key := d }) (fun a b hab => ⟨hy, hab.val, hab.born⟩) hE e0 j p1 p4 p5)
            refine ⟨_, _, ?_, g1, g2, .tup (view_tup _) (.cons p3.val (.cons (.i64 e0.born) .nil))⟩
            simp only [Instr.mapEntry, Sem.run_bind, hu, Result.andThen, run_getMap hm, hck, hq, Nat.zero_add, hj, Option.map_some, Option.getD_some, Instr.keyThatStays, hsb, if_true, Sem.run_pure, run_setMap hm, p3.born]
      · cases hb
    · cases hb
  · cases hb
theorem findIdx_born (n : Nat) {v : V} {f : MapEntry → MapEntry} (hf : ∀ e ce, ER φ e ce → ER φ ⟨e.key, v, e.born⟩ (f ce)) :
    ∀ {es : List E} {ces : List MapEntry}, ERL φ es ces → ∀ es', updB n v es = some es' → ∃ i, ces.findIdx? (fun e => (e.born : Int) == (n : Int)) = some i ∧ ERL φ es' (ces.modify i f) := by
  intro es ces hE
  induction hE with
  | nil => intro es' h; cases h
  | @cons e ce es ces he hs ih =>
    intro es' h
    simp only [updB] at h
    by_cases hn : e.born = n
    · simp only [hn, if_true] at h
      cases h
      refine ⟨0, ?_, ?_⟩
      · have : ce.born = n := by rw [← he.born, hn]
        simp [List.findIdx?_cons, this]
      · simp only [List.modify_zero_cons]
        have := hf _ _ he
        rw [hn] at this
        exact .cons this hs
    · simp only [hn, if_false] at h
      cases hu : updB n v es with
      | none => rw [hu] at h; cases h
      | some es1 =>
        rw [hu] at h
        cases h
        obtain ⟨i, h1, h2⟩ := ih es1 hu
        refine ⟨i + 1, ?_, ?_⟩
        · have h3 : ¬ ce.born = n := by rw [← he.born]; exact hn
          have h4 : ¬ (ce.born : Int) = (n : Int) := by omega
          rw [List.findIdx?_cons, if_neg (by simpa using h4), h1]
          rfl
        · simp only [List.modify_succ_cons]
          exact .cons he h2
theorem entryStore_run (hr : HR cs φ h w) (t : TypeId) {x y z v : V} {c d e : Value} {h' : H} (hx : VR φ x c) (hy : VR φ y d) (hz : VR φ z e) {tm : T} {X Y Z : IX}
    (eX : ev tm X = x) (eY : ev tm Y = y) (eZ : ev tm Z = z) (hb : opA tm h (.entryStore X Y Z) = .val v h') :
    v = vUnk ∧ ∃ w', (Instr.entryStore t c d e).run P w = .ok () w' ∧ HR cs φ h' w' ∧ Ext φ h w φ h' w' := by
  simp only [opA, eX, eY, eZ] at hb
  split at hb
  · rename_i b n hv hn
    obtain ⟨cb, hb', rfl⟩ := hx.mp_inv hv
    obtain ⟨κ, rfl⟩ := natOf_inv hy hn
    split at hb
    · rename_i es clk hbv
      obtain ⟨ces, hm, hE⟩ := map_blk hr hb' hbv
      split at hb
      · rename_i es' hu
        cases hb
        obtain ⟨i, h1, h2⟩ := findIdx_born (φ := φ) n (f := fun e' => { e' with val := e }) (fun a b hab => ⟨hab.key, hz, hab.born⟩) hE es' hu
        obtain ⟨g1, g2⟩ := put_map (es' := es') (clk' := clk) (ces' := ces.modify i fun e' => { e' with val := e }) hr hb' hbv hm (by rw [Array.toList_modify]; exact h2)
        refine ⟨rfl, _, ?_, g1, g2⟩
        have h1' : ces.findIdx? (fun e => (e.born : Int) == (n : Int)) = some i := by rw [← List.findIdx?_toArray] at h1; exact h1
        simp only [Instr.entryStore, Sem.run_bind, run_getMap hm, Result.andThen, asInt, asIntOf, Sem.run_pure, h1', run_setMap hm]
      · cases hb
    · cases hb
  · cases hb
theorem mkMap_run (hr : HR cs φ h w) {v : V} {h' : H} (t : TypeId) {tm : T} (hb : opA tm h .mkMap = .val v h') : ∃ c w', (Instr.makeMap t none).run P w = .ok c w' ∧ Sim cs φ h w v h' c w' := by
  simp only [opA] at hb
  split at hb
  · rename_i hm
    cases hb
    refine ⟨.map (some w.heap.size), pushed w (.map #[] 0), ?_, φ.add (.of h.next) ⟨w.heap.size, 0, 0⟩, hr.new hm ?_, Ext.new hr hm, .mp (view_mp _) (Phi.add_same _ _ _)⟩
    · simp [Instr.makeMap, pushed]
    · exact ⟨#[], getElem?_push_new _ _, .nil⟩
  · cases hb
end Go.Eng
end
section
namespace Go.Eng
variable {P : Program} {cs : Nat → Option CSite} {φ : Phi} {h : H} {w : World}
inductive VRO (φ : Phi) : Option V → Option Value → Prop
  | none : VRO φ none none
  | some {v c} (h : VR φ v c) : VRO φ (some v) (some c)
theorem sliceBound_run {v : V} {c : Value} {n y : Nat} (hv : VR φ v c) (hn : natOf v = some n) (hy : n ≤ y) (code : BoundsCode) : (Instr.sliceBound c y code).run P w = .ok n w := by
  obtain ⟨κ, rfl⟩ := natOf_inv hv hn
  simp [Instr.sliceBound, asIntOf, hy]
theorem sliceBounds_run {isSl : Bool} {len cap : Nat} {lo hi mx : Option V} {lo' hi' mx' : Option Value} (hlo : VRO φ lo lo') (hhi : VRO φ hi hi') (hmx : VRO φ mx mx') {cap' : Nat}
    (hcap : cap ≤ cap') (hm : mx = none → cap' = cap ∨ True) {l hh m : Nat} (hb : sliceBounds len cap lo hi mx = some (l, hh, m)) (hhm : mx ≠ none → hi ≠ none) :
    (Instr.sliceBounds isSl len cap' lo' hi' mx').run P w = .ok (l, hh, if mx = none then cap' else m) w ∧ l ≤ hh ∧ hh ≤ m ∧ m ≤ cap ∧ (mx = none → m = cap) := by
  unfold sliceBounds at hb
  split at hb
  · rename_i m1 h1 l1 e1 e2 e3
    split at hb
    · rename_i hc
      cases hb
      obtain ⟨c1, c2, c3⟩ := hc
      refine ⟨?_, c3, c2, c1, ?_⟩
      · cases hmx with
        | none =>
          simp only at e1
          cases e1
          cases hhi with
          | none =>
            simp only at e2
            cases e2
            cases hlo with
            | none => simp only at e3; cases e3; simp [Instr.sliceBounds]
            | some hl => simp [Instr.sliceBounds, sliceBound_run hl e3 c3]
          | some hh' =>
            cases hlo with
            | none => simp only at e3; cases e3; simp [Instr.sliceBounds, sliceBound_run hh' e2 (Nat.le_trans c2 hcap)]
            | some hl => simp [Instr.sliceBounds, sliceBound_run hh' e2 (Nat.le_trans c2 hcap), sliceBound_run hl e3 c3]
        | some hm' =>
          cases hhi with
          | none => exact absurd rfl (hhm (by simp))
          | some hh' =>
            cases hlo with
            | none => simp only at e3; cases e3; simp [Instr.sliceBounds, sliceBound_run hm' e1 (Nat.le_trans c1 hcap), sliceBound_run hh' e2 c2]
            | some hl => simp [Instr.sliceBounds, sliceBound_run hm' e1 (Nat.le_trans c1 hcap), sliceBound_run hh' e2 c2, sliceBound_run hl e3 c3]
      · intro e; subst e; simp only at e1; exact (Option.some.inj e1).symm
    · cases hb
  · cases hb
theorem bytesL_extract (s : ByteArray) (a b : Nat) : bytesL (s.extract a b) = ((bytesL s).drop a).take (b - a) := by
  unfold bytesL
  rw [Lib.extract_data, List.map_take, List.map_drop]
theorem slice_str_run {t : TypeId} (hd : P.underlying t = some .string) {x v : V} {c : Value} {lo hi : Option V} {lo' hi' : Option Value} (hx : VR φ x c) (hlo : VRO φ lo lo') (hhi : VRO φ hi hi') {h' : H}
    (hb : opSlice h .str x lo hi none = .val v h') : h' = h ∧ ∃ r, (Instr.sliceAt t c lo' hi' none).run P w = .ok r w ∧ VR φ v r := by
  cases hview : x.view <;> simp only [opSlice, hview] at hb <;> first | cases hb | skip
  · rename_i l s
    obtain ⟨st, rfl, e1, e2⟩ := hx.str_inv hview
    split at hb
    · rename_i a b m _ hsb
      cases hb
      obtain ⟨hrun, g1, g2, g3, g4⟩ := sliceBounds_run (P := P) (w := w) (isSl := false) hlo hhi .none (cap' := l) (Nat.le_refl _) (fun _ => .inl rfl) hsb (fun e => absurd rfl e)
      refine ⟨rfl, .string (st.extract a b), ?_, .str (view_str _ _) ?_ ?_⟩
      · have hu : (underlying t).run P w = .ok .string w := by simp [underlying, hd]
        simp only [if_true] at hrun
        rw [← e1] at hrun
        simp [Instr.sliceAt, hu, Instr.slice, hrun]
      · rw [ByteArray.size_extract]; omega
      · rw [bytesL_extract, ← subStr_pack _ (bytesL_bytes st), e2]
    · cases hb
theorem slice_sl_run {t e : TypeId} {i : TyI} (hd : P.underlying t = some (.slice e)) (he : TyOK P e i) {x v : V} {c : Value} {lo hi mx : Option V} {lo' hi' mx' : Option Value} (hx : VR φ x c)
    (hlo : VRO φ lo lo') (hhi : VRO φ hi hi') (hmx : VRO φ mx mx') (hhm : mx ≠ none → hi ≠ none) {h' : H} (hb : opSlice h (.sl i.size) x lo hi mx = .val v h') :
    h' = h ∧ ∃ r, (Instr.sliceAt t c lo' hi' mx').run P w = .ok r w ∧ VR φ v r := by
  have hu : (underlying t).run P w = .ok (.slice e) w := by simp [underlying, hd]
  cases hview : x.view <;> simp only [opSlice, hview] at hb <;> first | cases hb | skip
  · cases hx.nils_inv hview
    split at hb
    · rename_i q hsb
      cases hb
      obtain ⟨l, hh, m⟩ := q
      obtain ⟨hrun, g1, g2, g3, g4⟩ := sliceBounds_run (P := P) (w := w) (isSl := true) hlo hhi hmx (cap' := 0) (Nat.le_refl _) (fun _ => .inl rfl) hsb hhm
      have h0 : l = 0 ∧ hh = 0 ∧ m = 0 := by omega
      obtain ⟨rfl, rfl, rfl⟩ := h0
      refine ⟨rfl, .slice none 0 0, ?_, .nils (view_nils)⟩
      have hif : (if mx = none then 0 else 0) = 0 := by split <;> rfl
      rw [hif] at hrun
      simp [Instr.sliceAt, hu, Instr.slice, hrun, run_sizeOf he]
    · cases hb
  · rename_i b o len cap es' ex
    obtain ⟨cb, oc, cap', hb', rfl, q1, q2, q3, q4⟩ := hx.sl_inv hview
    split at hb
    · rename_i l hh m hsb
      split at hb
      · rename_i hes
        subst hes
        cases hb
        obtain ⟨hrun, g1, g2, g3, g4⟩ := sliceBounds_run (P := P) (w := w) (isSl := true) hlo hhi hmx (cap' := cap') q2 (fun _ => .inr trivial) hsb hhm
        refine ⟨rfl, _, by simp [Instr.sliceAt, hu, Instr.slice, hrun, run_sizeOf he]; rfl, ?_⟩
        by_cases hm0 : mx = none
        · simp only [hm0, if_true]
          have hmc := g4 hm0
          have hadd : ∀ n, (⟨cb.blk, oc, none⟩ : Addr).add n = ⟨cb.blk, oc + n, none⟩ := fun n => add_addr _ _ _
          have key : (if cap' = l then some (⟨cb.blk, oc, none⟩ : Addr) else some ((⟨cb.blk, oc, none⟩ : Addr).add (l * i.size))) =
              some ⟨cb.blk, if cap' = l then oc else oc + l * i.size, none⟩ := by
            split <;> simp [hadd]
          rw [key]
          refine .sl (view_sl _ _ _ _ _ _) hb' (by omega) (by omega) ?_ ?_
          · intro hex
            have : ex = true := by simpa [hm0] using hex
            have := q3 this
            omega
          · intro hpos
            have hne : ¬ cap' = l := by omega
            simp only [hne, if_false]
            obtain ⟨r1, r2⟩ := q4 (by omega)
            refine ⟨by omega, ?_⟩
            have : (cap' - l) * i.size + l * i.size = cap' * i.size := by rw [← Nat.add_mul]; congr 1; omega
            omega
        · simp only [hm0, if_false]
          have hadd : ∀ n, (⟨cb.blk, oc, none⟩ : Addr).add n = ⟨cb.blk, oc + n, none⟩ := fun n => add_addr _ _ _
          have key : (if m = l then some (⟨cb.blk, oc, none⟩ : Addr) else some ((⟨cb.blk, oc, none⟩ : Addr).add (l * i.size))) =
              some ⟨cb.blk, if m = l then oc else oc + l * i.size, none⟩ := by
            split <;> simp [hadd]
          rw [key]
          refine .sl (view_sl _ _ _ _ _ _) hb' (by omega) (Nat.le_refl _) (fun _ => rfl) ?_
          intro hpos
          have hne : ¬ m = l := by omega
          simp only [hne, if_false]
          obtain ⟨r1, r2⟩ := q4 (by omega)
          refine ⟨by omega, ?_⟩
          have h5 : (m - l) * i.size + l * i.size = m * i.size := by rw [← Nat.add_mul]; congr 1; omega
          have h6 : m * i.size ≤ cap' * i.size := Nat.mul_le_mul_right _ (by omega)
          omega
      · cases hb
    · cases hb
theorem slice_arr_run (hr : HR cs φ h w) {t e : TypeId} {n : Nat} {i : TyI} (hd : P.underlying t = some (.array n e)) (he : TyOK P e i) {x v : V} {c : Value} {lo hi mx : Option V} {lo' hi' mx' : Option Value} (hx : VR φ x c)
    (hlo : VRO φ lo lo') (hhi : VRO φ hi hi') (hmx : VRO φ mx mx') (hhm : mx ≠ none → hi ≠ none) {h' : H} (hb : opSlice h (.arr n i.size) x lo hi mx = .val v h') :
    h' = h ∧ ∃ r, (Instr.sliceAt t c lo' hi' mx').run P w = .ok r w ∧ VR φ v r := by
  have hu : (underlying t).run P w = .ok (.array n e) w := by simp [underlying, hd]
  cases hview : x.view <;> simp only [opSlice, hview] at hb <;> first | cases hb | skip
  · rename_i b o
    obtain ⟨cb, hb', rfl⟩ := hx.ptr_inv hview
    split at hb
    · rename_i l hh m hsb
      split at hb
      · rename_i sz c e' fz hbv
        split at hb
        · rename_i hsz
          cases hb
          have hB := hr.blks b cb hb'
          rw [hbv] at hB
          obtain ⟨cells, lo2, hi2, k1, k2, k3, _⟩ := hB
          obtain ⟨hrun, g1, g2, g3, g4⟩ := sliceBounds_run (P := P) (w := w) (isSl := false) hlo hhi hmx (cap' := n) (Nat.le_refl _) (fun _ => .inl rfl) hsb hhm
          have hif : (if mx = none then n else m) = m := by
            split
            · rename_i e0; exact (g4 e0).symm
            · rfl
          rw [hif] at hrun
          refine ⟨rfl, _, by simp [Instr.sliceAt, hu, Instr.sureAddr, hrun, run_sizeOf he]; rfl, ?_⟩
          have key : (if m = l then (⟨cb.blk, cb.off + o, none⟩ : Addr) else (⟨cb.blk, cb.off + o, none⟩ : Addr).add (l * i.size)) =
              ⟨cb.blk, if m = l then cb.off + o else cb.off + o + l * i.size, none⟩ := by
            split <;> simp [add_addr]
          rw [key]
          refine .sl (view_sl _ _ _ _ _ _) hb' (by omega) (Nat.le_refl _) (fun _ => rfl) ?_
          intro hpos
          have hne : ¬ m = l := by omega
          simp only [hne, if_false]
          refine ⟨by omega, ?_⟩
          have h5 : (m - l) * i.size + l * i.size = m * i.size := by rw [← Nat.add_mul]; congr 1; omega
          have h6 : m * i.size ≤ n * i.size := Nat.mul_le_mul_right _ (by omega)
          omega
        · cases hb
      · cases hb
    · cases hb
theorem fieldAddr_run {t : TypeId} {fs : Array Field} (hd : P.underlying t = some (.struct fs)) {f : Nat} {fd : Field} (hf : fs[f]? = some fd) {i : TyI} (hi : TyOK P fd.type i) (h0 : i.size ≠ 0)
    {x : V} {c : Value} {b : Id} {o : Nat} (hx : VR φ x c) (hv : x.view = .ptr b o) : ∃ r, (Instr.fieldAt t c f).run P w = .ok r w ∧ VR φ (vPtr b (o + fd.offset)) r := by
  obtain ⟨cb, hb, rfl⟩ := hx.ptr_inv hv
  have hu : (underlying t).run P w = .ok (.struct fs) w := by simp [underlying, hd]
  refine ⟨.pointer (some ⟨cb.blk, cb.off + (o + fd.offset), none⟩), ?_, .ptr (view_ptr _ _) hb⟩
  simp [Instr.fieldAt, hu, hf, Instr.sureAddr, fieldPlace, run_sizeOf hi, h0, add_addr, Nat.add_assoc]
theorem indexAddr_arr_run {t e : TypeId} {n : Nat} {i : TyI} (hd : P.underlying t = some (.array n e)) (hi : TyOK P e i) {x y : V} {c d : Value} {b : Id} {o k : Nat} (hx : VR φ x c) (hy : VR φ y d)
    (hv : x.view = .ptr b o) (hk : natOf y = some k) (hlt : k < n) : ∃ r, (Instr.indexAt t c d).run P w = .ok r w ∧ VR φ (vPtr b (o + k * i.size)) r := by
  obtain ⟨cb, hb, rfl⟩ := hx.ptr_inv hv
  obtain ⟨κ, rfl⟩ := natOf_inv hy hk
  have hu : (underlying t).run P w = .ok (.array n e) w := by simp [underlying, hd]
  refine ⟨.pointer (some ⟨cb.blk, cb.off + (o + k * i.size), none⟩), ?_, .ptr (view_ptr _ _) hb⟩
  simp [Instr.indexAt, asIntOf, hu, Instr.sureAddr, hlt, run_sizeOf hi, add_addr, Nat.add_assoc]
theorem indexAddr_sl_run {t e : TypeId} {i : TyI} (hd : P.underlying t = some (.slice e)) (hi : TyOK P e i) {x y : V} {c d : Value} {b : Id} {o len cap es k : Nat} {ex : Bool} (hx : VR φ x c) (hy : VR φ y d)
    (hv : x.view = .sl b o len cap es ex) (hk : natOf y = some k) (hlt : k < len) : ∃ r, (Instr.indexAt t c d).run P w = .ok r w ∧ VR φ (vPtr b (o + k * i.size)) r := by
  obtain ⟨cb, oc, cap', hb, rfl, q1, q2, q3, q4⟩ := hx.sl_inv hv
  obtain ⟨κ, rfl⟩ := natOf_inv hy hk
  have hu : (underlying t).run P w = .ok (.slice e) w := by simp [underlying, hd]
  obtain ⟨r1, _⟩ := q4 (by omega)
  refine ⟨.pointer (some ⟨cb.blk, cb.off + (o + k * i.size), none⟩), ?_, .ptr (view_ptr _ _) hb⟩
  simp [Instr.indexAt, asIntOf, hu, hlt, run_sizeOf hi, add_addr, r1, Nat.add_assoc]
end Go.Eng
end
section
namespace Go.Eng
variable {P : Program} {cs : Nat → Option CSite} {φ : Phi} {h : H} {w : World}
theorem unpackN_take : ∀ (n : Nat) (l : List Nat), Bytes l → n ≤ l.length → unpackN (packL l) n = l.take n
  | 0, _, _, _ => by simp [unpackN]
  | n + 1, [], _, h => by simp at h
  | n + 1, b :: l, hb, h => by
    have h1 := hb b (by simp)
    simp only [packL, unpackN, List.take_succ_cons]
    rw [show (b + 256 * packL l) % 256 = b by omega, show (b + 256 * packL l) / 256 = packL l by omega,
      unpackN_take n l (fun x hx => hb x (List.mem_cons_of_mem _ hx)) (by simpa using h)]
theorem bytes_VRL : ∀ (l : List Nat), VRL φ (l.map fun b => vInt 4 (b + off63)) (l.map fun (b : Nat) => Value.int .u8 b)
  | [] => .nil
  | b :: l => .cons (VR.int (k := .u8) (view_int 4 _) (dI_add b)) (bytes_VRL l)
theorem firstCells_run (hr : HR cs φ h w) {x : V} {c : Value} (hx : VR φ x c) {es n : Nat} {l : List V} (hl : firstCells h es n x = some l) {m : Nat} (hm : lenA x = some m) (hn : n ≤ m) :
    ∃ a : Array Value, (∀ w' : World, w'.heap = w.heap → (Builtin.firstCells es n c).run P w' = .ok a w') ∧ VRL φ l a.toList := by
  cases hview : x.view <;> simp only [firstCells, hview] at hl <;> first | cases hl | skip
  · rename_i k s
    obtain ⟨st, rfl, e1, e2⟩ := hx.str_inv hview
    simp only [lenA, hview] at hm
    cases hm
    refine ⟨_, fun _ _ => rfl, ?_⟩
    subst e1 e2
    rw [unpackN_take n _ (bytesL_bytes st) (by rw [bytesL_length]; exact hn)]
    have : ((st.extract 0 n).data.map fun b => Value.int .u8 b.toNat).toList = ((bytesL st).take n).map fun (b : Nat) => Value.int .u8 b := by
      rw [Array.toList_map]
      have h1 := bytesL_extract st 0 n
      simp only [List.drop_zero, Nat.sub_zero] at h1
      rw [← h1]
      unfold bytesL
      rw [List.map_map]
      rfl
    rw [this]
    exact bytes_VRL _
  · cases hx.nils_inv hview
    exact ⟨#[], fun _ _ => rfl, .nil⟩
  · rename_i b o len cap es' ex
    obtain ⟨cb, oc, cap', hb', rfl, q1, q2, q3, q4⟩ := hx.sl_inv hview
    simp only [lenA, hview] at hm
    cases hm
    split at hl
    · rename_i h0
      cases hl
      refine ⟨#[], fun w' _ => ?_, .nil⟩
      simp only [Builtin.firstCells, h0]
      rfl
    · rename_i h0
      obtain ⟨hlen, xs, hv, hxl, hc, _⟩ := rdCells_run hr hb' hl
      have hpos : 0 < n := Nat.pos_of_ne_zero (fun e => h0 (by simp [e]))
      obtain ⟨r1, _⟩ := q4 (by omega)
      refine ⟨xs.toArray, fun w' hw' => ?_, by simpa using hv⟩
      have hcell : ∀ a, w'.cell? a = w.cell? a := fun a => by unfold World.cell?; rw [hw']
      have := run_loadCells_list (P := P) w' ⟨cb.blk, oc, none⟩ xs (fun j v hj => by rw [add_addr, r1, hcell]; exact hc j v hj)
      rw [hxl] at this
      exact this
theorem rep_length (zs : List V) : ∀ n, (rep zs n).length = n * zs.length
  | 0 => by simp [rep]
  | n + 1 => by simp [rep, rep_length zs n, Nat.add_mul]; omega
def cyc {α : Type} (L : List α) : Nat → List α
  | 0 => []
  | n + 1 => L ++ cyc L n
theorem cyc_length {α : Type} (L : List α) : ∀ n, (cyc L n).length = n * L.length
  | 0 => by simp [cyc]
  | n + 1 => by simp [cyc, cyc_length L n, Nat.add_mul]; omega
theorem cyc_get {α : Type} (L : List α) : ∀ (n i : Nat), i < n * L.length → (cyc L n)[i]? = L[i % L.length]?
  | 0, i, hi => by omega
  | n + 1, i, hi => by
    simp only [cyc]
    by_cases h1 : i < L.length
    · rw [List.getElem?_append_left h1, Nat.mod_eq_of_lt h1]
    · rw [List.getElem?_append_right (by omega), cyc_get L n _ (by rw [Nat.add_mul] at hi; omega)]
      congr 1
      have : i = (i - L.length) + L.length := by omega
      conv => rhs; rw [this]
      rw [Nat.add_mod_right]
theorem cyc_range {α : Type} [Inhabited α] (L : List α) (n : Nat) : (List.range (n * L.length)).map (fun i => L.toArray[i % L.length]!) = cyc L n := by
  apply List.ext_getElem?
  intro i
  by_cases hi : i < n * L.length
  · rw [cyc_get L n i hi, List.getElem?_map, List.getElem?_range hi]
    have hp : 0 < L.length := Nat.pos_of_ne_zero (fun e => by rw [e] at hi; omega)
    have hlt : i % L.length < L.length := Nat.mod_lt _ hp
    simp [hlt]
  · rw [List.getElem?_eq_none (by simp; omega), List.getElem?_eq_none (by rw [cyc_length]; omega)]
theorem rep_VRL {zs : List V} {L : List Value} (hz : VRL φ zs L) : ∀ n, VRL φ (rep zs n) (cyc L n)
  | 0 => .nil
  | n + 1 => hz.append (rep_VRL hz n)
theorem zeroCells_eq (z : Array Value) (n : Nat) : (Builtin.zeroCells z n).toList = cyc z.toList n := by
  have := cyc_range z.toList n
  simp only [Array.length_toList] at this
  rw [← this]
  simp [Builtin.zeroCells, Array.toList_range]
theorem growBy_le (newLen : Nat) : ∀ (r c : Nat), Builtin.growBy newLen r c ≤ max c (newLen + (newLen + 768) / 4)
  | 0, c => by simp only [Builtin.growBy]; omega
  | r + 1, c => by
    simp only [Builtin.growBy]
    split
    · omega
    · rename_i hlt
      have := growBy_le newLen r (c + (c + 768) / 4)
      have h1 : c + (c + 768) / 4 ≤ newLen + (newLen + 768) / 4 := by
        have : (c + 768) / 4 ≤ (newLen + 768) / 4 := Nat.div_le_div_right (by omega)
        omega
      omega
theorem nextslicecap_le (need cap : Nat) (hn : cap < need) : Builtin.nextslicecap need cap ≤ 2 * need + 768 := by
  unfold Builtin.nextslicecap
  split
  · omega
  · split
    · omega
    · have := growBy_le need 4 cap
      have h2 : (need + 768) / 4 ≤ need + 768 := Nat.div_le_self _ _
      have h3 : 4 * ((need + 768) / 4) ≤ need + 768 := Nat.mul_div_le _ _
      omega
def drewW (w : World) : World := { w with drawn := w.drawn + 1 }
theorem HR.drew (hr : HR cs φ h w) : HR cs φ h (drewW w) := hr.world fun _ _ => rfl
theorem Ext.drew : Ext φ h w φ h (drewW w) := ⟨Phi.le_refl _, Nat.le_refl _, fun _ _ => rfl, fun _ _ _ => ⟨rfl, fun _ _ hb _ => hb⟩, rfl, rfl, rfl, Nat.le_refl _, fun _ _ h => h⟩
theorem cut_appendCap (need old elem t : Nat) : need ≤ (Question.appendCap need old elem).cut t := by simp [Question.cut]
theorem i64_max : IntKind.i64.max = 9223372036854775807 := by decide
theorem wrap_nat (n : Nat) (h : n ≤ 4164) : IntKind.i64.wrap (n : Int) = n := by rw [IntKind.wrap_i64]; omega
theorem app3 {α : Type} (a b : List α) (z : Array α) : a.toArray ++ b.toArray ++ z = ((a ++ b) ++ z.toList).toArray := by
  apply Array.ext'
  simp
def isIntD : TypeDesc → Bool
  | .int _ => true
  | _ => false
structure ApIn (P : Program) (φ : Phi) (w : World) (zeros : Bool) (elem : TypeId) (i : TyI) (sT xT : TypeId) (dx : TypeDesc) (n : Nat) (x : Value) (xs : List Value) : Prop where
  elemOk : TyOK P elem i
  zero : ∃ z, i.zero = some z
  slice : P.underlying sT = some (.slice elem)
  arg : P.underlying xT = some dx
  zerosEq : isIntD dx = zeros
  bytes : 0 < i.bytes
  plain : zeros = false → (Builtin.lenOf x).run P w = .ok n w
  many : zeros = true → ∃ κ, x = .int κ n ∧ n ≤ 4164 ∧ (n : Int) * i.bytes ≤ 281474976710656
  cells : ∀ w', (w' = w ∨ w' = drewW w) →
    ((if !zeros then Builtin.firstCells i.size n x else if n * i.size = 0 then pure #[] else do pure (Builtin.zeroCells (← zeroValue elem).cells n) : Sem (Array Value))).run P w' = .ok xs.toArray w'
theorem append_place {zeros : Bool} {elem : TypeId} {i : TyI} {sT xT : TypeId} {dx : TypeDesc} {n : Nat} {x : Value} {xs : List Value} (ha : ApIn P φ w zeros elem i sT xT dx n x xs) (tt : TypeId)
    {base : Option Addr} {sLen sCap : Nat} (hle : sLen + n ≤ sCap) {w' : World} (hst : (match base with | some a => storeCells (a.add (sLen * i.size)) xs | none => pure () : Sem Unit).run P w = .ok () w') :
    (Builtin.append_ #[sT, xT] tt #[.slice base sLen sCap, x]).run P w = .ok (.slice base (sLen + n) sCap) w' := by
  have hu : (underlying sT).run P w = .ok (.slice elem) w := by simp [underlying, ha.slice]
  have hux : (underlying xT).run P w = .ok dx w := by simp [underlying, ha.arg]
  obtain ⟨d, hti, hdb⟩ := run_bytes (P := P) (w := w) ha.elemOk
  have hc := ha.cells w (.inl rfl)
  cases zeros with
  | false =>
    have hp := ha.plain rfl
    have hz := ha.zerosEq
    simp only [Bool.not_false, if_true] at hc
    cases dx <;> first | (cases hz; done) | skip
    all_goals simp only [Builtin.append_, List.getElem?_toArray, List.getElem?_cons_zero, List.getElem?_cons_succ, Sem.run_bind, hu, Result.andThen, run_sizeOf ha.elemOk, hux, Sem.run_pure, hp, Bool.false_eq_true, if_false, hle, if_true, Bool.not_false, hc]
    all_goals cases base with
    | none => simp only [Sem.run_pure] at hst; cases hst; rfl
    | some a => simp only at hst; simp only [Sem.run_bind, hst, Result.andThen, Sem.run_pure]
  | true =>
    obtain ⟨κ, rfl, hn1, hn2⟩ := ha.many rfl
    have hz := ha.zerosEq
    simp only [Bool.not_true, Bool.false_eq_true, if_false] at hc
    cases dx <;> first | (cases hz; done) | skip
    have h0 : ¬ (n : Int) < 0 := by omega
    have h1 : ¬ (n : Int) * (d.bytes : Int) > 281474976710656 := by rw [hdb]; omega
    have hsel : ((2 : Int) ^ 48) = 281474976710656 := by decide
    simp only [Builtin.append_, List.getElem?_toArray, List.getElem?_cons_zero, List.getElem?_cons_succ, Sem.run_bind, hu, Result.andThen, run_sizeOf ha.elemOk, hux, Sem.run_pure, asInt, asIntOf, wrap_nat n hn1, h0, if_false, hti, hsel, h1, Int.toNat_natCast,
      hle, if_true, Bool.not_true, Bool.false_eq_true, hc]
    cases base with
    | none => simp only [Sem.run_pure] at hst; cases hst; rfl
    | some a => simp only at hst; simp only [Sem.run_bind, hst, Result.andThen, Sem.run_pure]
theorem append_grow {zeros : Bool} {elem : TypeId} {i : TyI} {sT xT : TypeId} {dx : TypeDesc} {n : Nat} {x : Value} {xs : List Value} (ha : ApIn P φ w zeros elem i sT xT dx n x xs) (tt : TypeId)
    {base : Option Addr} {sLen sCap : Nat} (hgt : sCap < sLen + n) (hsm : small (sLen + n) i.bytes = true) (hsm1 : small (sLen + n) 1 = true) {old : List Value}
    (hold : (Builtin.firstCells i.size sLen (.slice base sLen sCap)).run P (drewW w) = .ok old.toArray (drewW w)) :
    ∃ (nc : Nat) (rest : List Value), sLen + n ≤ nc ∧ rest.length = (nc - (sLen + n)) * i.size ∧
      (Builtin.append_ #[sT, xT] tt #[.slice base sLen sCap, x]).run P w =
        .ok (.slice (some ⟨w.heap.size, 0, none⟩) (sLen + n) nc) (pushed (drewW w) (.cells ((old ++ xs) ++ rest).toArray elem)) := by
  have hu : (underlying sT).run P w = .ok (.slice elem) w := by simp [underlying, ha.slice]
  have hux : (underlying xT).run P w = .ok dx w := by simp [underlying, ha.arg]
  obtain ⟨z, hz0⟩ := ha.zero
  obtain ⟨d, hti, hdb⟩ := run_bytes (P := P) (w := w) ha.elemOk
  obtain ⟨d', hti', hdb'⟩ := run_bytes (P := P) (w := drewW w) ha.elemOk
  obtain ⟨zc, hzr', hzsz, _, hzv⟩ := run_zeroValues (P := P) ha.elemOk hz0
  have hzr := hzr' (drewW w)
  have hc := ha.cells (drewW w) (.inr rfl)
  have hnle : ¬ sLen + n ≤ sCap := by omega
  have hcap := nextslicecap_le (sLen + n) sCap hgt
  have hnext : ¬ Builtin.nextslicecap (sLen + n) sCap * d.bytes > 281474976710656 := by
    have h1 : (2 * (sLen + n) + 768) * i.bytes ≤ 2 ^ 40 := by simpa [small] using hsm
    have h2 : Builtin.nextslicecap (sLen + n) sCap * d.bytes ≤ (2 * (sLen + n) + 768) * i.bytes := by rw [hdb]; exact Nat.mul_le_mul_right _ hcap
    have h3 : (2 : Nat) ^ 40 = 1099511627776 := by decide
    omega
  have hmax : ¬ ((sLen + n : Nat) : Int) > IntKind.i64.max := by
    have h1 : (2 * (sLen + n) + 768) * 1 ≤ 2 ^ 40 := by simpa [small] using hsm1
    have h3 : (2 : Nat) ^ 40 = 1099511627776 := by decide
    rw [i64_max]; omega
  have hforced : (Question.appendCap (sLen + n) sCap elem).forced = false := rfl
  have hsel : ((2 : Nat) ^ 48) = 281474976710656 := by decide
  refine ⟨(Question.appendCap (sLen + n) sCap elem).cut (w.tape w.drawn (.appendCap (sLen + n) sCap elem)),
    (Builtin.zeroCells zc.cells ((Question.appendCap (sLen + n) sCap elem).cut (w.tape w.drawn (.appendCap (sLen + n) sCap elem)) - (sLen + n))).toList, cut_appendCap _ _ _ _, (by rw [zeroCells_eq, cyc_length, Array.length_toList, hzsz]), ?_⟩
  have hdr : ({ w with drawn := w.drawn + 1 } : World) = drewW w := rfl
  cases zeros with
  | false =>
    have hp := ha.plain rfl
    have hz := ha.zerosEq
    simp only [Bool.not_false, if_true] at hc
    cases dx <;> first | (cases hz; done) | skip
    all_goals simp only [Builtin.append_, List.getElem?_toArray, List.getElem?_cons_zero, List.getElem?_cons_succ, Sem.run_bind, hu, Result.andThen, run_sizeOf ha.elemOk, hux, Sem.run_pure, hp, Bool.false_eq_true, if_false, hnle, hmax, false_and, hti, hsel, hnext,
      run_choose, hforced, hdr, hti', run_askRoom, hold, Bool.not_false, if_true, hc, hzr, newRow, run_newObj]
    all_goals (rw [app3]; rfl)
  | true =>
    obtain ⟨κ, rfl, hn1, hn2⟩ := ha.many rfl
    have hz := ha.zerosEq
    simp only [Bool.not_true, Bool.false_eq_true, if_false] at hc
    cases dx <;> first | (cases hz; done) | skip
    have h0 : ¬ (n : Int) < 0 := by omega
    have h1 : ¬ (n : Int) * (d.bytes : Int) > 281474976710656 := by rw [hdb]; omega
    have hsel2 : ((2 : Int) ^ 48) = 281474976710656 := by decide
    simp only [Builtin.append_, List.getElem?_toArray, List.getElem?_cons_zero, List.getElem?_cons_succ, Sem.run_bind, hu, Result.andThen, run_sizeOf ha.elemOk, hux, Sem.run_pure, asInt, asIntOf, wrap_nat n hn1, h0, if_false, hti, hsel2, h1, Int.toNat_natCast,
      hnle, hmax, false_and, hsel, hnext, run_choose, hforced, hdr, hti', run_askRoom, hold, Bool.not_true, Bool.false_eq_true, if_true, hc, hzr, newRow, run_newObj]
    rw [app3]; rfl
end Go.Eng
end
section
namespace Go.Eng
variable {P : Program} {cs : Nat → Option CSite} {φ : Phi} {h : H} {w : World}
theorem lenOf_run {x : V} {c : Value} (hx : VR φ x c) {n : Nat} (hn : lenA x = some n) : (Builtin.lenOf c).run P w = .ok n w := by
  cases hv : x.view <;> simp only [lenA, hv] at hn <;> first | cases hn | skip
  · obtain ⟨s, rfl, e1, _⟩ := hx.str_inv hv
    simp [Builtin.lenOf, e1]
  · cases hx.nils_inv hv; rfl
  · obtain ⟨_, _, _, _, rfl, _⟩ := hx.sl_inv hv; rfl
theorem vSl_new {cb : CB} {b : Id} (hb : φ b = some cb) {len cap es tot nc : Nat} (h0 : cb.off = 0) (hlen : len = cap) (hnc : cap ≤ nc) (ht : nc * es ≤ cb.tot) :
    VR φ (vSl b 0 len cap es false) (.slice (some ⟨cb.blk, 0, none⟩) len nc) :=
  .sl (view_sl _ _ _ _ _ _) hb (by omega) hnc (fun e => by cases e) (fun _ => ⟨by omega, by omega⟩)
theorem alias_run {b : Id} {cb : CB} {w' : World} (hr : HR cs φ h w) (hb : φ b = some cb) (hl : (h.blk b).view.isDead = false) (ht : (h.blk b).view.isTab = false) (hm : h.room = true)
    (hw : ∀ B, B ≠ cb.blk → w'.heap[B]? = w.heap[B]?) (hs : w'.heap.size = w.heap.size) (ho : w'.os = w.os) (hp : w'.output = w.output) (hta : w'.tape = w.tape) {cb' : CB} (hcb : cb'.blk = cb.blk) {x : B}
    (hx : BR cs (φ.add (.of h.next) cb') w' cb' x.view) :
    HR cs (φ.add (.of h.next) cb') ((h.put b bDead).new x) w' ∧ Ext φ h w (φ.add (.of h.next) cb') ((h.put b bDead).new x) w' := by
  have hr1 : HR cs φ (h.put b bDead) w' := hr.put hb hl hw trivial
  refine ⟨hr1.add (h := h.put b bDead) hm ?_ hx, ?_⟩
  · intro b' cb2 hb' hd hcc
    rw [H.blk_put] at hd
    by_cases e : b' = b
    · rw [if_pos e] at hd; cases hd
    · rw [if_neg e] at hd
      exact e (hr.inj b' b cb2 cb hb' hb hd hl (by rw [hcc, hcb]))
  · have hn := hr.none hm
    refine ⟨Phi.le_add hn _, by rw [hs]; exact Nat.le_refl _, fun b' h' => ?_, fun B hB hn' => ?_, ho, hp, hta, Nat.le_succ _, fun b' hlt hno => ?_⟩
    · rw [H.blk_new, H.blk_put]
      have h1 : b' ≠ .of h.next := fun e => by
        subst e
        rw [hr.free _ (by rw [Id.nat_of _ (H.room_lt hm)]; exact Nat.le_refl _)] at h'
        cases h'
      have h2 : b' ≠ b := fun e => by subst e; rw [ht] at h'; cases h'
      rw [if_neg (show b' ≠ Id.of (h.put b bDead).next from h1), if_neg h2]
    · have hB' : B ≠ cb.blk := fun e => by have := hn' b cb hb e.symm; rw [ht] at this; cases this
      refine ⟨hw B hB', fun b' cb2 hb' hcc => ?_⟩
      unfold Phi.add at hb'
      split at hb'
      · cases hb'; exact absurd (hcc.symm.trans hcb) hB'
      · exact hb'
    · unfold Phi.add
      split
      · rename_i e
        have : b'.nat = h.next := by rw [e]; exact Id.nat_of _ (H.room_lt hm)
        omega
      · exact hno
theorem appendN_run (hr : HR cs φ h w) {zeros : Bool} {elem : TypeId} {i : TyI} {sT xT : TypeId} {dx : TypeDesc} {n : Nat} {x : Value} {xs : List Value} (ha : ApIn P φ w zeros elem i sT xT dx n x xs) (tt : TypeId)
    {new : List V} (hnew : VRL φ new xs) (hlen : new.length = n * i.size) {s v : V} {c : Value} {h' : H} {m : Nat} (hs : VR φ s c) (hm : lenA s = some m)
    (hsm : small (m + n) i.bytes = true) (hsm1 : small (m + n) 1 = true) (hb : appendN h elem i.size s new n = .val v h') :
    ∃ r w', (Builtin.append_ #[sT, xT] tt #[c, x]).run P w = .ok r w' ∧ Sim cs φ h w v h' r w' := by
  have hxl : xs.length = n * i.size := by rw [← hnew.length]; exact hlen
  have hrd := hr.drew
  cases hv : s.view <;> simp only [lenA, hv] at hm <;> simp only [appendN, hv] at hb <;> first | (cases hm; done) | skip
  · cases hb
  ·
    cases hm
    cases hs.nils_inv hv
    split at hb
    · rename_i h0
      subst h0
      cases hb
      have := append_place (P := P) ha tt (base := none) (sLen := 0) (sCap := 0) (Nat.le_refl _) (w' := w) rfl
      exact ⟨_, _, this, φ, hr, Ext.refl _ _ _, .nils view_nils⟩
    · rename_i h0
      obtain ⟨nc, rest, hnc, hrl, hrun⟩ := append_grow (P := P) ha tt (base := none) (sLen := 0) (sCap := 0) (by omega) hsm hsm1 (old := []) rfl
      obtain ⟨rfl, hr', hext⟩ := newA_run rest (x := false) (fun e => nomatch e) hrd hb hnew
      rw [List.nil_append] at hrun
      refine ⟨_, _, hrun, _, hr', Ext.drew.trans hext, ?_⟩
      rw [Nat.zero_add]
      refine vSl_new (tot := 0) (Phi.add_same _ _ _) rfl rfl (by omega) ?_
      show nc * i.size ≤ xs.length + rest.length
      rw [hxl, hrl, ← Nat.add_mul]
      exact Nat.mul_le_mul_right _ (by omega)
  · rename_i b o len cap es' ex
    have hm := Option.some.inj hm
    subst hm
    obtain ⟨cb, oc, cap', hb', rfl, q1, q2, q3, q4⟩ := hs.sl_inv hv
    split at hb
    · rename_i hes
      subst hes
      split at hb
      · rename_i hfit
        split at hb
        ·
          rename_i h0
          subst h0
          cases hb
          have hx0 : xs = [] := List.length_eq_zero_iff.1 (by rw [hxl, Nat.zero_mul])
          subst hx0
          have := append_place (P := P) ha tt (base := some ⟨cb.blk, oc, none⟩) (sLen := len) (sCap := cap') (by omega) (w' := w) rfl
          exact ⟨_, _, this, φ, hr, Ext.refl _ _ _, .sl (view_sl _ _ _ _ _ _) hb' (by omega) q2 q3 q4⟩
        ·
          rename_i h0
          split at hb
          · rename_i h1 hst
            cases hb
            obtain ⟨r1, r2⟩ := q4 (by omega)
            obtain ⟨w', hrun, hr', hext⟩ := storeA_run (P := P) hr hb' hst hnew
            have := append_place (P := P) ha tt (base := some ⟨cb.blk, oc, none⟩) (sLen := len) (sCap := cap') (by omega) (w' := w')
              (by simp only [add_addr, r1]; rw [Nat.add_assoc]; exact hrun)
            exact ⟨_, _, this, φ, hr', hext, .sl (view_sl _ _ _ _ _ _) hb' (by omega) q2 q3 q4⟩
          · cases hb
      · rename_i hnfit
        split at hb
        ·
          rename_i hex
          have hcc := q3 hex
          split at hb
          · rename_i old hrdc
            obtain ⟨hol, ys, hys, hyl, hyc, _⟩ := rdCells_run hr hb' hrdc
            have hold : (Builtin.firstCells i.size len (.slice (some ⟨cb.blk, oc, none⟩) len cap')).run P (drewW w) = .ok ys.toArray (drewW w) := by
              show (Go.loadCells ⟨cb.blk, oc, none⟩ (len * i.size)).run P (drewW w) = _
              by_cases hz : len * i.size = 0
              · rw [hz] at hyl ⊢
                have : ys = [] := List.length_eq_zero_iff.1 hyl
                subst this; rfl
              · have hpos : 0 < len := Nat.pos_of_ne_zero (fun e => hz (by simp [e]))
                obtain ⟨r1, _⟩ := q4 (by omega)
                have := run_loadCells_list (P := P) (drewW w) ⟨cb.blk, oc, none⟩ ys (fun j v hj => by rw [add_addr, r1]; exact hyc j v hj)
                rw [hyl] at this
                exact this
            obtain ⟨nc, rest, hnc, hrl, hrun⟩ := append_grow (P := P) ha tt (base := some ⟨cb.blk, oc, none⟩) (sLen := len) (sCap := cap') (by omega) hsm hsm1 hold
            obtain ⟨rfl, hr', hext⟩ := newA_run rest (x := false) (fun e => nomatch e) hrd hb (hys.append hnew)
            refine ⟨_, _, hrun, _, hr', Ext.drew.trans hext, ?_⟩
            refine vSl_new (tot := 0) (Phi.add_same _ _ _) rfl rfl (by omega) ?_
            show nc * i.size ≤ (ys ++ xs).length + rest.length
            rw [List.length_append, hyl, hxl, hrl, ← Nat.add_mul, ← Nat.add_mul]
            exact Nat.mul_le_mul_right _ (by omega)
          · cases hb
        ·
          rename_i hex
          split at hb
          · rename_i sz cc e fz x0 hbv
            split at hb
            · rename_i hc
              obtain ⟨c1, c2, c3, c4, c5, c6, c7⟩ := hc
              subst c3
              cases hb
              have hB := hr.blks b cb hb'
              rw [hbv] at hB
              obtain ⟨cells, lo, hi, k1, k2, k3, k4, k5, k6⟩ := hB
              have hdead : (h.blk b).view.isDead = false := by rw [hbv]; rfl
              have htab : (h.blk b).view.isTab = false := by rw [hbv]; rfl
              have hrdc : rdCells h b o (len * i.size) = some (loadCells cc o (len * i.size)) := by
                simp only [rdCells, hbv]
                rw [if_pos ⟨c1, c2⟩]
              obtain ⟨hol, ys, hys, hyl, hyc, hyf⟩ := rdCells_run hr hb' hrdc
              have hlen2 : (loadCells cc o (len * i.size) ++ new).length = (len + n) * i.size := by
                rw [List.length_append, hol, hlen, Nat.add_mul]
              have hflat : Flat (loadCells cc o (len * i.size) ++ new) := by
                intro y hy
                rcases List.mem_append.1 hy with hy | hy
                · exact hyf y hy
                · exact flat_Flat c7 y hy
              by_cases hfit : len + n ≤ cap'
              ·
                by_cases hz0 : 0 < cap'
                · obtain ⟨r1, r2⟩ := q4 hz0
                  have hcap : (len + n) * i.size ≤ cap' * i.size := Nat.mul_le_mul_right _ hfit
                  have hadd : (len + n) * i.size = len * i.size + n * i.size := Nat.add_mul _ _ _
                  obtain ⟨w', cells', hrun, hc', hsz', hget, hoth, hsize, hos, hout, htape, hdr⟩ := run_storeCells_row (P := P) xs 0 w cb.blk (cb.off + (o + len * i.size)) cells e lo hi k1
                    (by omega) (hnew.one (flat_Flat c7)) (fun j hj => by omega)
                  have := append_place (P := P) ha tt (base := some ⟨cb.blk, oc, none⟩) (sLen := len) (sCap := cap') hfit (w' := w')
                    (by simp only [add_addr, r1]; rw [Nat.add_assoc]; exact hrun)
                  obtain ⟨g1, g2⟩ := alias_run (cb' := ⟨cb.blk, cb.off + o, cb.tot⟩) (x := bCells ((len + n) * i.size) (appC cc o (len * i.size) new) e (fz - o) false) hr hb' hdead htab c5 hoth hsize hos hout htape rfl (by
                    refine ⟨cells', lo, hi, hc', (by show cells'.size = cb.tot; omega), (by show cb.off + o + (len + n) * i.size ≤ cb.tot; omega), fun j hj => ?_, (by
                      show (len + n) * i.size < fz - o ∨ lo = hi ∨ hi ≤ cb.off + o + (fz - o)
                      omega), fun e => nomatch e⟩
                    have hj : j < (len + n) * i.size := hj
                    show ((appC cc o (len * i.size) new).get j).cell = true ∧ ∃ y, cells'[cb.off + o + j]? = some y ∧ VR _ ((appC cc o (len * i.size) new).get j) y
                    have hg : (appC cc o (len * i.size) new).get j = (loadCells cc o (len * i.size) ++ new).getD j vUnk :=
                      appC_get (by rw [List.length_append, hol] at hlen2; omega) j (by omega)
                    have hvi : (loadCells cc o (len * i.size) ++ new)[j]? = some ((loadCells cc o (len * i.size) ++ new).getD j vUnk) := by
                      rw [List.getD_eq_getElem?_getD, List.getElem?_eq_getElem (by omega)]; rfl
                    rw [hg]
                    refine ⟨hflat _ (List.mem_of_getElem? hvi), ?_⟩
                    rw [hget]
                    by_cases hj1 : j < len * i.size
                    · rw [if_neg (by omega)]
                      obtain ⟨_, y, hy, hvy⟩ := k4 (o + j) (by omega)
                      refine ⟨y, by rw [Nat.add_assoc]; exact hy, ?_⟩
                      have : (loadCells cc o (len * i.size) ++ new).getD j vUnk = cc.get (o + j) := by
                        rw [List.getD_eq_getElem?_getD, List.getElem?_append_left (by omega), loadCells_get _ _ _ _ hj1]; rfl
                      rw [this]
                      exact hvy.mono (Phi.le_add (hr.none c5) _)
                    · rw [if_pos (by omega)]
                      have hvn : new[j - len * i.size]? = some ((loadCells cc o (len * i.size) ++ new).getD j vUnk) := by
                        rw [← hvi, List.getElem?_append_right (by omega), hol]
                      obtain ⟨y, hy, hvy⟩ := hnew.get _ _ hvn
                      exact ⟨y, by rw [show cb.off + o + j - (cb.off + (o + len * i.size) + 0) = j - len * i.size by omega]; exact hy, hvy.mono (Phi.le_add (hr.none c5) _)⟩)
                  refine ⟨_, _, this, _, g1, g2, VR.sl (cb := ⟨cb.blk, cb.off + o, cb.tot⟩) (view_sl _ _ _ _ _ _) (Phi.add_same _ _ _) (Nat.le_refl _) hfit (fun e => by cases e) (fun _ => ⟨?_, ?_⟩)⟩
                  · show oc = cb.off + o + 0; omega
                  · show cb.off + o + 0 + cap' * i.size ≤ cb.tot; omega
                ·
                  have hn0 : n = 0 := by omega
                  have hl0 : len = 0 := by omega
                  omega
              ·
                have hold : (Builtin.firstCells i.size len (.slice (some ⟨cb.blk, oc, none⟩) len cap')).run P (drewW w) = .ok ys.toArray (drewW w) := by
                  show (Go.loadCells ⟨cb.blk, oc, none⟩ (len * i.size)).run P (drewW w) = _
                  by_cases hz : len * i.size = 0
                  · rw [hz] at hyl ⊢
                    have : ys = [] := List.length_eq_zero_iff.1 hyl
                    subst this; rfl
                  · have hpos : 0 < len := Nat.pos_of_ne_zero (fun e => hz (by simp [e]))
                    obtain ⟨r1, _⟩ := q4 (by omega)
                    have := run_loadCells_list (P := P) (drewW w) ⟨cb.blk, oc, none⟩ ys (fun j v hj => by rw [add_addr, r1]; exact hyc j v hj)
                    rw [hyl] at this
                    exact this
                obtain ⟨nc, rest, hnc, hrl, hrun⟩ := append_grow (P := P) ha tt (base := some ⟨cb.blk, oc, none⟩) (sLen := len) (sCap := cap') (by omega) hsm hsm1 hold
                have hk := hrd.kill (b := b)
                obtain ⟨g1, g2⟩ := new_runC (h := h.put b bDead) (e := e) (fz := fz - o) (rest := rest) (x := false) (cc := appC cc o (len * i.size) new) (fun j hj => appC_get (by rw [List.length_append, hol] at hlen2; omega) j hj) (fun e => nomatch e) hk c5 hflat (hys.append hnew)
                rw [hlen2] at g1 g2
                refine ⟨_, _, hrun, _, g1, (Ext.drew.trans (Ext.kill (b := b) htab)).trans g2, ?_⟩
                refine vSl_new (tot := 0) (Phi.add_same _ _ _) rfl rfl (by omega) ?_
                show nc * i.size ≤ (ys ++ xs).length + rest.length
                rw [List.length_append, hyl, hxl, hrl, ← Nat.add_mul, ← Nat.add_mul]
                exact Nat.mul_le_mul_right _ (by omega)
            · cases hb
          · cases hb
    · cases hb
end Go.Eng
end
