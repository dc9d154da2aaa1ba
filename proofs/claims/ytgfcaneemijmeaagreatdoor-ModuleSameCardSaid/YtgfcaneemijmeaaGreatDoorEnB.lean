/- A machine of plain data that runs the code of closed calls, and its proof against the model: a part. -/
import Derived.Laws.IdiomStrings
import Derived.Lib.ConvBytes
import Derived.Lib.UnsafeStr
import Derived.Maps.RangeRun
import Derived.Test.YtgfcaneemijmeaaGreatDoorEnA
set_option linter.unusedVariables false
set_option linter.unusedSimpArgs false
section
namespace Go.Eng
variable {P : Program} {cs : Nat → Option CSite} {φ : Phi} {h : H} {w : World}
theorem append_run (hr : HR cs φ h w) {elem : TypeId} {i : TyI} (he : TyOK P elem i) {z : V} (hz : i.zero = some z) {sT xT : TypeId} {dx : TypeDesc} (hd : P.underlying sT = some (.slice elem)) (hdx : P.underlying xT = some dx)
    {s x v : V} {c d : Value} {h' : H} (hs : VR φ s c) (hx : VR φ x d) (tt : TypeId)
    (hb : opAppend h elem i.size i.bytes (if isIntD dx then some (cellsOf z) else none) s x = .val v h') :
    ∃ r w', (Builtin.append_ #[sT, xT] tt #[c, d]).run P w = .ok r w' ∧ Sim cs φ h w v h' r w' := by
  obtain ⟨zc, hzr, hzsz, hzk, hzv⟩ := run_zeroValues he hz
  unfold opAppend at hb
  split at hb
  · rename_i n new m hq hm
    split at hb
    · rename_i hc
      obtain ⟨c1, c2, c3, c4⟩ := hc
      by_cases hint : isIntD dx = true
      · rw [hint] at hq
        simp only [if_true] at hq
        cases hn : natOf x with
        | none => rw [hn] at hq; cases hq
        | some n0 =>
          rw [hn] at hq
          simp only [Option.bind_some] at hq
          split at hq
          · rename_i hle
            cases hq
            obtain ⟨κ, rfl⟩ := natOf_inv hx hn
            have hzz := cellsOf_run (hzv φ) hzk
            have hap : ApIn P φ w true elem i sT xT dx n (.int κ n) (if n * i.size = 0 then [] else cyc zc.cells.toList n) := by
              refine ⟨he, ⟨z, hz⟩, hd, hdx, hint, c3, (fun e => by cases e), fun _ => ⟨κ, rfl, hle, ?_⟩, fun w' _ => ?_⟩
              · have h1 : (2 * (m + n) + 768) * i.bytes ≤ 2 ^ 40 := of_decide_eq_true c1
                have h2 : n * i.bytes ≤ (2 * (m + n) + 768) * i.bytes := Nat.mul_le_mul_right _ (by omega)
                have h3 : (2 : Nat) ^ 40 = 1099511627776 := by decide
                have h4 : n * i.bytes ≤ 281474976710656 := by omega
                have h5 := Int.ofNat_le.2 h4
                rw [Int.natCast_mul] at h5
                exact h5
              · simp only [Bool.not_true, Bool.false_eq_true, if_false]
                split
                · rfl
                · simp only [Sem.run_bind, hzr w', Result.andThen, Sem.run_pure]
                  exact congrArg (fun a => Result.ok a w') (by apply Array.ext'; rw [zeroCells_eq])
            refine appendN_run hr hap tt (new := rep (cellsOf z) n) ?_ c4 hs hm c1 c2 hb
            split
            · rename_i h0
              have : rep (cellsOf z) n = [] := List.length_eq_zero_iff.1 (by rw [c4]; exact h0)
              rw [this]; exact .nil
            · exact rep_VRL hzz n
          · cases hq
      · have hint' : isIntD dx = false := by simpa using hint
        rw [hint'] at hq
        simp only [Bool.false_eq_true, if_false] at hq
        cases hn : lenA x with
        | none => rw [hn] at hq; cases hq
        | some n0 =>
          rw [hn] at hq
          simp only [Option.bind_some] at hq
          cases hf : firstCells h i.size n0 x with
          | none => rw [hf] at hq; cases hq
          | some l =>
            rw [hf] at hq
            cases hq
            obtain ⟨a, ha, hav⟩ := firstCells_run (P := P) hr hx hf hn (Nat.le_refl _)
            have hap : ApIn P φ w false elem i sT xT dx n d a.toList := by
              refine ⟨he, ⟨z, hz⟩, hd, hdx, hint', c3, fun _ => lenOf_run hx hn, (fun e => by cases e), fun w' hw' => ?_⟩
              simp only [Bool.not_false, if_true]
              have : w'.heap = w.heap := by rcases hw' with rfl | rfl <;> rfl
              exact ha w' this
            exact appendN_run hr hap tt hav c4 hs hm c1 c2 hb
    · cases hb
  · cases hb
theorem copy_run (hr : HR cs φ h w) {elem : TypeId} {i : TyI} (he : TyOK P elem i) {dT sT : TypeId} (hd : P.underlying dT = some (.slice elem)) {x y v : V} {c d : Value} {h' : H} (hx : VR φ x c) (hy : VR φ y d) (tt : TypeId)
    {tm : T} {X Y : IX} (eX : ev tm X = x) (eY : ev tm Y = y) (hb : opA tm h (.copy i.size X Y) = .val v h') :
    ∃ r w', (Builtin.copy_ #[dT, sT] tt #[c, d]).run P w = .ok r w' ∧ HR cs φ h' w' ∧ Ext φ h w φ h' w' ∧ VR φ v r := by
  simp only [opA, eX, eY] at hb
  have hu : (underlying dT).run P w = .ok (.slice elem) w := by simp [underlying, hd]
  split at hb
  · rename_i m hv hm
    cases hb
    cases hx.nils_inv hv
    have hlo := lenOf_run (P := P) (w := w) hy hm
    have hf0 : ∀ d : Value, (∃ m, (Builtin.lenOf d).run P w = .ok m w) → ∃ a, (Builtin.firstCells i.size 0 d).run P w = .ok a w := by
      intro d hd
      obtain ⟨m, hd⟩ := hd
      cases d <;> first
        | exact ⟨_, rfl⟩
        | (rename_i a _ _; cases a <;> first | exact ⟨_, rfl⟩ | (refine ⟨#[], ?_⟩; simp only [Builtin.firstCells, Nat.zero_mul]; rfl))
        | (cases hd; done)
    obtain ⟨a, ha⟩ := hf0 d ⟨m, hlo⟩
    refine ⟨goInt 0, w, ?_, hr, Ext.refl _ _ _, .i64 0⟩
    have hmin : Nat.min m 0 = 0 := Nat.min_zero m
    simp only [Builtin.copy_, List.getElem?_toArray, List.getElem?_cons_zero, List.getElem?_cons_succ, Sem.run_bind, hu, Result.andThen, hlo, hmin, run_sizeOf he, ha]
    rfl
  · rename_i b o len cap es' ex m hv hm
    obtain ⟨cb, oc, cap', hb', rfl, q1, q2, q3, q4⟩ := hx.sl_inv hv
    have hlo := lenOf_run (P := P) (w := w) hy hm
    split at hb
    · rename_i hes
      subst hes
      split at hb
      · rename_i l hf
        obtain ⟨a, ha, hav⟩ := firstCells_run (P := P) hr hy hf hm (Nat.min_le_left _ _)
        have ha := ha w rfl
        have hmin : Nat.min m len = min m len := rfl
        split at hb
        · rename_i h0
          cases hb
          have hl0 : l = [] := List.length_eq_zero_iff.1 h0
          subst hl0
          have : a = #[] := by
            cases hal : a.toList with
            | nil => apply Array.ext'; simpa using hal
            | cons y ys => rw [hal] at hav; cases hav
          subst this
          refine ⟨goInt (min m len : Nat), w, ?_, hr, Ext.refl _ _ _, .i64 _⟩
          simp only [Builtin.copy_, List.getElem?_toArray, List.getElem?_cons_zero, List.getElem?_cons_succ, Sem.run_bind, hu, Result.andThen, hlo, hmin, run_sizeOf he, ha]
          rfl
        · rename_i h0
          split at hb
          · rename_i h1 hst
            cases hb
            have hpos : 0 < cap' := by
              rcases Nat.eq_zero_or_pos cap' with e0 | e0
              · exfalso
                have : min m len = 0 := by omega
                rw [this] at hf
                cases hyv : y.view <;> simp only [firstCells, hyv] at hf <;> first | (cases hf; done) | skip
                · cases hf; simp [unpackN] at h0
                · cases hf; exact h0 rfl
                · simp at hf; subst hf; exact h0 rfl
              · exact e0
            obtain ⟨r1, r2⟩ := q4 hpos
            obtain ⟨w', hrun, hr', hext⟩ := storeA_run (P := P) hr hb' hst hav
            refine ⟨goInt (min m len : Nat), w', ?_, hr', hext, .i64 _⟩
            rw [← r1] at hrun
            simp only [Builtin.copy_, List.getElem?_toArray, List.getElem?_cons_zero, List.getElem?_cons_succ, Sem.run_bind, hu, Result.andThen, hlo, hmin, run_sizeOf he, ha, hrun]
            rfl
          · cases hb
      · cases hb
    · cases hb
  · cases hb
inductive Parts (φ : Phi) (place : Nat → Option (Nat × Nat)) : List (Nat × Nat × List V) → List (Nat × Value) → Prop
  | nil : Parts φ place [] []
  | cons {off n vs k c ps qs} (h1 : place k = some (off, n)) (h2 : VRL φ vs c.cells.toList) (hs : Parts φ place ps qs) : Parts φ place ((off, n, vs) :: ps) ((k, c) :: qs)
theorem foldl_get (xs : List Value) : ∀ (k off : Nat) (a : Array Value), off + k + xs.length ≤ a.size → ∀ j,
    ((xs.zipIdx k).foldl (fun (cs : Array Value) (p : Value × Nat) => cs.setIfInBounds (off + p.2) p.1) a)[j]? = if off + k ≤ j ∧ j < off + k + xs.length then xs[j - (off + k)]? else a[j]? := by
  induction xs with
  | nil => intro k off a h j; rw [if_neg (by simp)]; rfl
  | cons x xs ih =>
    intro k off a h j
    simp only [List.length_cons] at h ⊢
    simp only [List.zipIdx_cons, List.foldl_cons]
    rw [ih (k + 1) off _ (by simp only [Array.size_setIfInBounds]; omega)]
    by_cases hj1 : off + (k + 1) ≤ j ∧ j < off + (k + 1) + xs.length
    · rw [if_pos hj1, if_pos (by omega), show j - (off + k) = (j - (off + (k + 1))) + 1 by omega]
      simp
    · rw [if_neg hj1]
      by_cases hj2 : j = off + k
      · subst hj2
        rw [if_pos (by omega), Array.getElem?_setIfInBounds_self, if_pos (by omega)]
        simp
      · rw [if_neg (by omega), Array.getElem?_setIfInBounds_ne (by omega)]
theorem foldl_set (xs : List Value) (off : Nat) (a : Array Value) (h : off + xs.length ≤ a.size) :
    ((xs.zipIdx 0).foldl (fun (cs : Array Value) (p : Value × Nat) => cs.setIfInBounds (off + p.2) p.1) a).toList = a.toList.take off ++ xs ++ a.toList.drop (off + xs.length) := by
  apply List.ext_getElem?
  intro j
  rw [Array.getElem?_toList, foldl_get xs 0 off a (by omega) j, List.append_assoc]
  by_cases h1 : j < off
  · rw [if_neg (by omega), List.getElem?_append_left (by simp; omega), List.getElem?_take, if_pos h1, Array.getElem?_toList]
  · have hm : (a.toList.take off).length = off := by simp; omega
    rw [List.getElem?_append_right (by omega), hm]
    by_cases h2 : j < off + xs.length
    · rw [if_pos (by omega), List.getElem?_append_left (by omega)]
      rfl
    · rw [if_neg (by omega), List.getElem?_append_right (by omega), List.getElem?_drop, Array.getElem?_toList]
      congr 1
      omega
theorem fillA_run (place : Nat → Option (Nat × Nat)) {ps : List (Nat × Nat × List V)} {qs : List (Nat × Value)} (hp : Parts φ place ps qs) :
    ∀ (cells l : List V) (a : Array Value), VRL φ cells a.toList → fillA cells ps = some l → ∃ b, Instr.fill place a qs = some b ∧ VRL φ l b.toList := by
  induction hp with
  | nil => intro cells l a ha hl; simp only [fillA] at hl; cases hl; exact ⟨a, rfl, ha⟩
  | @cons off n vs k c ps qs h1 h2 _ ih =>
    intro cells l a ha hl
    simp only [fillA] at hl
    split at hl
    · rename_i hc
      obtain ⟨c1, c2⟩ := hc
      have hcl := h2.length
      have hal := ha.length
      simp only [Array.length_toList] at hcl hal
      have hset := foldl_set c.cells.toList off a (by simp; omega)
      have hcond : ¬ (c.cells.size ≠ n || decide (off + c.cells.size > a.size)) = true := by
        simp; omega
      obtain ⟨b, hb, hbl⟩ := ih _ l ((c.cells.toList.zipIdx 0).foldl (fun (cs : Array Value) (p : Value × Nat) => cs.setIfInBounds (off + p.2) p.1) a) (by
        rw [hset]
        have := ((ha.take off).append h2).append (ha.drop (off + n))
        rw [show off + c.cells.toList.length = off + n by simp; omega]
        exact this) hl
      refine ⟨b, ?_, hbl⟩
      rw [← hb]
      simp only [Instr.fill, h1]
      rw [if_neg (by simpa using hcond)]
      congr 1
      rw [← Array.foldl_toList]
      simp [Array.toList_zipIdx]
    · cases hl
end Go.Eng
end
section
namespace Go.Eng
variable {P : Program} {cs : Nat → Option CSite} {φ : Phi} {h : H} {w : World}
def FieldsOK (P : Program) (fs : Array Field) (pl : List (Nat × Nat)) : Prop :=
  fs.size = pl.length ∧ ∀ (k : Nat) (f : Field) (p : Nat × Nat), fs[k]? = some f → pl[k]? = some p → f.offset = p.1 ∧ ∃ i, TyOK P f.type i ∧ i.size = p.2
theorem mapM_fields {fs : List Field} : ∀ {pl : List (Nat × Nat)}, fs.length = pl.length →
    (∀ (k : Nat) (f : Field) (p : Nat × Nat), fs[k]? = some f → pl[k]? = some p → f.offset = p.1 ∧ ∃ i, TyOK P f.type i ∧ i.size = p.2) →
    (fs.mapM (m := Sem) fun f => do pure (f.offset, ← sizeOf f.type)).run P w = .ok pl w := by
  induction fs with
  | nil => intro pl hl _; cases pl with | nil => rfl | cons => simp at hl
  | cons f fs ih =>
    intro pl hl hp
    cases pl with
    | nil => simp at hl
    | cons p pl =>
      obtain ⟨h1, i, h2, h3⟩ := hp 0 f p rfl rfl
      have := ih (pl := pl) (by simpa using hl) (fun k f p a b => hp (k + 1) f p (by simpa using a) (by simpa using b))
      simp only [List.mapM_cons, Sem.run_bind, run_sizeOf h2, Result.andThen, Sem.run_pure, this, h1, h3]
theorem build_struct_run {t : TypeId} {i : TyI} (ht : TyOK P t i) {fs : Array Field} (hd : i.desc = .struct fs) {z : V} (hz : i.zero = some z) {pl : List (Nat × Nat)} (hf : FieldsOK P fs pl)
    {ps : List (Nat × Nat × List V)} {qs : List (Nat × Value)} (hp : Parts φ (fun k => pl[k]?) ps qs) {l : List V} (hl : fillA (cellsOf z) ps = some l) :
    ∃ r, (Instr.build t qs.toArray).run P w = .ok r w ∧ VR φ (vAgg l) r := by
  obtain ⟨zc, hzr, hzsz, hzk, hzv⟩ := run_zeroValues ht hz
  have hzz := cellsOf_run (hzv φ) hzk
  obtain ⟨b, hb, hbl⟩ := fillA_run _ hp _ l zc.cells hzz hl
  have hm : (fs.mapM (m := Sem) fun f => do pure (f.offset, ← sizeOf f.type)).run P w = .ok pl.toArray w := by
    rw [Array.mapM_eq_mapM_toList, Sem.run_map, mapM_fields (pl := pl) (by simpa using hf.1) (fun k f p a b => hf.2 k f p (by simpa using a) b)]
    rfl
  refine ⟨.agg b, ?_, .agg (view_agg _) hbl⟩
  have hfun : (fun x : Nat => pl.toArray[x]?) = fun k => pl[k]? := by funext k; simp
  simp only [Instr.build, Sem.run_bind, hzr w, Result.andThen, run_underlying ht, hd, hm, Sem.run_pure]
  have hb2 : Instr.fill (fun x => pl.toArray[x]?) zc.cells qs.toArray.toList = some b := by rw [hfun]; simpa using hb
  rw [hb2]
  rfl
theorem build_arr_run {t e : TypeId} {i ie : TyI} (ht : TyOK P t i) {n : Nat} (hd : i.desc = .array n e) (he : TyOK P e ie) {z : V} (hz : i.zero = some z)
    {ps : List (Nat × Nat × List V)} {qs : List (Nat × Value)} (hp : Parts φ (fun k => some (k * ie.size, ie.size)) ps qs) {l : List V} (hl : fillA (cellsOf z) ps = some l) :
    ∃ r, (Instr.build t qs.toArray).run P w = .ok r w ∧ VR φ (vAgg l) r := by
  obtain ⟨zc, hzr, hzsz, hzk, hzv⟩ := run_zeroValues ht hz
  have hzz := cellsOf_run (hzv φ) hzk
  obtain ⟨b, hb, hbl⟩ := fillA_run _ hp _ l zc.cells hzz hl
  refine ⟨.agg b, ?_, .agg (view_agg _) hbl⟩
  simp only [Instr.build, Sem.run_bind, hzr w, Result.andThen, run_underlying ht, hd, run_sizeOf he]
  have hb2 : Instr.fill (fun x => some (x * ie.size, ie.size)) zc.cells qs.toArray.toList = some b := by simpa using hb
  rw [hb2]
  rfl
theorem range0 (f : Nat → Value) : ((Array.range 0).map f).toList = [] := by simp [Array.toList_range]
theorem zeroRow (z : Array Value) (n c : Nat) (h : n = c * z.size) : ((Array.range n).map fun x => z[x % z.size]!).toList = cyc z.toList c := by
  have := cyc_range z.toList c
  simp only [Array.length_toList] at this
  rw [← this, h]
  simp [Array.toList_range]
theorem buildSlice_run (hr : HR cs φ h w) {t e : TypeId} {i : TyI} (hd : P.underlying t = some (.slice e)) (he : TyOK P e i) {z : V} (hz : i.zero = some z) {len : Nat} (hlen : len * i.size ≤ 16777216)
    {ps : List (Nat × Nat × List V)} {qs : List (Nat × Value)} (hp : Parts φ (fun k => some (k * i.size, i.size)) ps qs) {l : List V} (hl : fillA (rep (cellsOf z) len) ps = some l) (hll : l.length = len * i.size)
    {v : V} {h' : H} (hb : newA h e true l (fun b => vSl b 0 len len i.size true) = .val v h') :
    ∃ r w', (Instr.buildSlice t len qs.toArray).run P w = .ok r w' ∧ Sim cs φ h w v h' r w' := by
  obtain ⟨zc, hzr, hzsz, hzk, hzv⟩ := run_zeroValues he hz
  have hzz := cellsOf_run (hzv φ) hzk
  have hu : (underlying t).run P w = .ok (.slice e) w := by simp [underlying, hd]
  have hsel : (2 : Nat) ^ 24 = 16777216 := by decide
  have hnle : ¬ len * i.size > 16777216 := by omega
  have key : ∀ z0 : Array Value, VRL φ (rep (cellsOf z) len) (((Array.range (len * i.size)).map fun x => z0[x % z0.size]!).toList) →
      (len * i.size = 0 ∧ z0 = #[] ∨ ¬ len * i.size = 0 ∧ z0 = zc.cells) →
      ∃ r w', (Instr.buildSlice t len qs.toArray).run P w = .ok r w' ∧ Sim cs φ h w v h' r w' := by
    intro z0 hz0 hrz
    obtain ⟨b, hfb, hbl⟩ := fillA_run _ hp _ l _ hz0 hl
    obtain ⟨rfl, hr', hext⟩ := newA_run [] (fun _ => rfl) hr hb hbl
    have hbs : b.toList.length = len * i.size := by rw [← hbl.length, hll]
    refine ⟨_, _, ?_, _, hr', hext, .sl (cb := ⟨w.heap.size, 0, b.toList.length + 0⟩) (oc := 0) (cap' := len) (view_sl _ _ _ _ _ _) (Phi.add_same _ _ _) (Nat.le_refl _) (Nat.le_refl _) (fun _ => rfl) (fun _ => ⟨rfl, ?_⟩)⟩
    · have hb2 : Instr.fill (fun x => some (x * i.size, i.size)) ((Array.range (len * i.size)).map fun x => z0[x % z0.size]!) qs.toArray.toList = some b := by simpa using hfb
      rcases hrz with ⟨g0, rfl⟩ | ⟨g0, rfl⟩
      · simp only [Instr.buildSlice, Sem.run_bind, hu, Result.andThen, run_sizeOf he, hsel, hnle, if_false, if_pos g0, Sem.run_pure]
        rw [hb2]
        simp only [newRow, Sem.run_bind, run_newObj, Result.andThen, Sem.run_pure, List.append_nil]
        rfl
      · simp only [Instr.buildSlice, Sem.run_bind, hu, Result.andThen, run_sizeOf he, hsel, hnle, if_false, if_neg g0, hzr w, Sem.run_pure]
        rw [hb2]
        simp only [newRow, Sem.run_bind, run_newObj, Result.andThen, Sem.run_pure, List.append_nil]
        rfl
    · show 0 + 0 + len * i.size ≤ b.toList.length + 0
      omega
  by_cases h0 : len * i.size = 0
  · refine key #[] ?_ (.inl ⟨h0, rfl⟩)
    have h1 : rep (cellsOf z) len = [] := List.length_eq_zero_iff.1 (by
      rw [rep_length, hzz.length, Array.length_toList, hzsz, h0])
    rw [h1, h0, range0]
    exact .nil
  · refine key zc.cells ?_ (.inr ⟨h0, rfl⟩)
    rw [zeroRow zc.cells (len * i.size) len (by rw [hzsz])]
    exact rep_VRL hzz len
theorem alloc_run (hr : HR cs φ h w) {e : TypeId} {i : TyI} (he : TyOK P e i) {z : V} (hz : i.zero = some z) {v : V} {h' : H} (hb : newA h e true (cellsOf z) (fun b => vPtr b 0) = .val v h') (heap : Bool) :
    ∃ r w', (Instr.alloc e true (.tuple #[])).run P w = .ok r w' ∧ Sim cs φ h w v h' r w' := by
  obtain ⟨zc, hzr, hzsz, hzk, hzv⟩ := run_zeroValues he hz
  have hzz := cellsOf_run (hzv φ) hzk
  obtain ⟨rfl, hr', hext⟩ := newA_run [] (fun _ => rfl) hr hb hzz
  refine ⟨_, _, ?_, _, hr', hext, .ptr (cb := ⟨w.heap.size, 0, zc.cells.toList.length + 0⟩) (view_ptr _ _) (Phi.add_same _ _ _)⟩
  simp only [Instr.alloc, Sem.run_bind, hzr w, Result.andThen, newVar, newRow, run_newObj, Sem.run_pure, List.append_nil]
  rfl
theorem makeSlice_run (hr : HR cs φ h w) {t e : TypeId} {i : TyI} (hd : P.underlying t = some (.slice e)) (he : TyOK P e i) {z : V} (hz : i.zero = some z) {x y v : V} {a b : Value} {h' : H} (hx : VR φ x a) (hy : VR φ y b)
    {l c : Nat} (hl : natOf x = some l) (hc : natOf y = some c) (hle : l ≤ c) (hsm : small c i.bytes = true) (hcc : (rep (cellsOf z) c).length = c * i.size) (hsz : c * i.size ≤ 4164) (hc2 : c ≤ 1099511627776)
    (hb : newA h e true (rep (cellsOf z) c) (fun b => vSl b 0 l c i.size true) = .val v h') :
    ∃ r w', (Instr.makeSlice t a b).run P w = .ok r w' ∧ Sim cs φ h w v h' r w' := by
  obtain ⟨zc, hzr, hzsz, hzk, hzv⟩ := run_zeroValues he hz
  have hzz := cellsOf_run (hzv φ) hzk
  have hu : (underlying t).run P w = .ok (.slice e) w := by simp [underlying, hd]
  obtain ⟨κ, rfl⟩ := natOf_inv hx hl
  obtain ⟨κ', rfl⟩ := natOf_inv hy hc
  obtain ⟨d, hti, hdb⟩ := run_bytes (P := P) (w := w) he
  have hwl : IntKind.i64.wrap (l : Int) = l := by rw [IntKind.wrap_i64]; omega
  have hwc : IntKind.i64.wrap (c : Int) = c := by rw [IntKind.wrap_i64]; omega
  have h1 : (2 * c + 768) * i.bytes ≤ 2 ^ 40 := of_decide_eq_true hsm
  have h2 : i.bytes * c ≤ (2 * c + 768) * i.bytes := by rw [Nat.mul_comm]; exact Nat.mul_le_mul_right _ (by omega)
  have h3 : (2 : Nat) ^ 40 = 1099511627776 := by decide
  have h4 : (2 : Int) ^ 48 = 281474976710656 := by decide
  have h5 : ¬ (decide ((c : Int) < 0) || decide ((d.bytes : Int) * (c : Int) > 281474976710656)) = true := by
    rw [hdb]
    have : ((i.bytes * c : Nat) : Int) ≤ 1099511627776 := by omega
    rw [Int.natCast_mul] at this
    simp
    omega
  have hcells : VRL φ (rep (cellsOf z) c) (((Array.range (c * i.size)).map fun x => (if c * i.size = 0 then #[] else zc.cells)[x % (if c * i.size = 0 then #[] else zc.cells).size]!).toList) := by
    by_cases h0 : c * i.size = 0
    · have h6 : rep (cellsOf z) c = [] := List.length_eq_zero_iff.1 (by rw [hcc, h0])
      rw [h6, h0, range0]
      exact .nil
    · simp only [h0, if_false]
      rw [zeroRow zc.cells (c * i.size) c (by rw [hzsz])]
      exact rep_VRL hzz c
  obtain ⟨rfl, hr', hext⟩ := newA_run [] (fun _ => rfl) hr hb hcells
  refine ⟨_, _, ?_, _, hr', hext, .sl (cb := ⟨w.heap.size, 0, _⟩) (oc := 0) (cap' := c) (view_sl _ _ _ _ _ _) (Phi.add_same _ _ _) hle (Nat.le_refl _) (fun _ => rfl) (fun _ => ⟨rfl, ?_⟩)⟩
  · have h6 : ¬ (l : Int) < 0 := by omega
    have h7 : ¬ (l : Int) > (c : Int) := by omega
    simp only [Instr.makeSlice, Sem.run_bind, hu, Result.andThen, asInt, asIntOf, Sem.run_pure, hti, hwl, hwc, h4]
    rw [if_neg (by simp only [Bool.or_eq_true, not_or] at h5 ⊢; simp; simp at h5; omega)]
    by_cases g0 : c * i.size = 0
    · simp only [Sem.run_bind, run_askRoom, Result.andThen, run_sizeOf he, Int.toNat_natCast, if_pos g0, newRow, run_newObj, Sem.run_pure, List.append_nil]
      rfl
    · simp only [Sem.run_bind, run_askRoom, Result.andThen, run_sizeOf he, Int.toNat_natCast, if_neg g0, hzr w, newRow, run_newObj, Sem.run_pure, List.append_nil]
      rfl
  · show 0 + 0 + c * i.size ≤ _ + 0
    rw [← hcells.length, hcc]
    omega
end Go.Eng
end
section
namespace Go.Eng
variable {P : Program} {cs : Nat → Option CSite} {φ : Phi} {h : H} {w : World}
def u8s (ns : List Nat) : List UInt8 := ns.map UInt8.ofNat
theorem u8s_toNat : ∀ {ns : List Nat}, Bytes ns → (u8s ns).map (·.toNat) = ns
  | [], _ => rfl
  | n :: ns, hb => by
    have h1 : n < 256 := hb n (by simp)
    have h2 : (UInt8.ofNat n).toNat = n := by simp [UInt8.toNat_ofNat']; omega
    show (UInt8.ofNat n).toNat :: (u8s ns).map (·.toNat) = _
    rw [h2, u8s_toNat fun x hx => hb x (List.mem_cons_of_mem _ hx)]
theorem bytesOf_inv : ∀ {l : List V} {xs : List Value} {ns : List Nat}, VRL φ l xs → Go.Eng.bytesOf l = some ns → xs = ns.map (fun (b : Nat) => Value.int .u8 b) ∧ Bytes ns ∧ ns.length = l.length
  | [], xs, ns, hv, hb => by
    cases hv
    simp only [Go.Eng.bytesOf] at hb
    cases hb
    exact ⟨rfl, fun _ h => by simp at h, rfl⟩
  | v :: vs, xs, ns, hv, hb => by
    cases hv with
    | cons h1 h2 =>
      simp only [Go.Eng.bytesOf] at hb
      split at hb
      · rename_i a l hw hbs
        split at hb
        · rename_i hle
          cases hb
          obtain ⟨r1, r2, r3⟩ := bytesOf_inv h2 hbs
          obtain ⟨κ, n, hk, hn, rfl⟩ := h1.int_inv hw
          have hk' : κ = .u8 := by cases κ <;> simp [kTo] at hk <;> rfl
          subst hk'
          have hn' : n = ((a - off63 : Nat) : Int) := by
            rw [← hn]
            unfold dI
            generalize off63 = o at *
            omega
          subst r1
          rw [hn']
          refine ⟨rfl, fun x hx => ?_, by simp [r3]⟩
          rcases List.mem_cons.1 hx with e | hx
          · rw [e]
            generalize off63 = o at *
            omega
          · exact r2 x hx
        · cases hb
      · cases hb
theorem bytesL_u8s {ns : List Nat} (hb : Bytes ns) : bytesL ⟨(u8s ns).toArray⟩ = ns := u8s_toNat hb
theorem cells_u8s {ns : List Nat} (hb : Bytes ns) : ns.map (fun (b : Nat) => Value.int .u8 b) = (u8s ns).map fun b => Value.int .u8 (b.toNat : Int) := by
  conv => lhs; rw [← u8s_toNat hb]
  rw [List.map_map]
  rfl
theorem u8s_length (ns : List Nat) : (u8s ns).length = ns.length := by simp [u8s]
theorem conv_int {src dst : TypeId} {ds : TypeDesc} {k : IntKind} (hs : P.underlying src = some ds) (hd : P.underlying dst = some (.int k)) {x : V} {c : Value} {j a : Nat} (hx : VR φ x c) (hw : x.view = .int j a) :
    ∃ r, (convert src dst c).run P w = .ok r w ∧ VR φ (vOfI k (k.wrap (dI a))) r := by
  obtain ⟨κ, n, rfl, rfl, rfl⟩ := hx.int_inv hw
  refine ⟨.int k (k.wrap (dI a)), ?_, .ofI (wrap_ge _ _)⟩
  simp [convert, Go.run_underlying hs, Go.run_underlying hd, Conv.intToInt]
theorem conv_same {src dst : TypeId} {ds : TypeDesc} (hs : P.underlying src = some ds) (hd : P.underlying dst = some .string) {x : V} {c : Value} {l s : Nat} (hx : VR φ x c) (hw : x.view = .str l s) :
    (convert src dst c).run P w = .ok c w := by
  obtain ⟨st, rfl, _, _⟩ := hx.str_inv hw
  simp [convert, Go.run_underlying hs, Go.run_underlying hd]
theorem conv_tostr (hr : HR cs φ h w) {src dst e : TypeId} (hs : P.underlying src = some (.slice e)) (he : P.underlying e = some (.int .u8)) (hd : P.underlying dst = some .string) {x v : V} {c : Value} {h' : H} (hx : VR φ x c)
    (hb : (match x.view with
      | .nils => OR.val (vStr 0 0) h
      | .sl b o len _ _ _ => if len = 0 then .val (vStr 0 0) h else match (rdCells h b o len).bind Go.Eng.bytesOf with
        | some l => .val (vStr len (packL l)) h
        | none => .fail
      | _ => .fail) = .val v h') : h' = h ∧ ∃ r, (convert src dst c).run P w = .ok r w ∧ VR φ v r := by
  have hnil : VR φ (vStr 0 0) (.string .empty) := .str (view_str _ _) rfl rfl
  split at hb
  · rename_i hw
    cases hb
    cases hx.nils_inv hw
    refine ⟨rfl, .string .empty, ?_, hnil⟩
    rw [run_convert_bytes_string w src dst e none 0 0 hs he hd]
    rfl
  · rename_i b o len cap es ex hw
    obtain ⟨cb, oc, cap', hb', rfl, q1, q2, q3, q4⟩ := hx.sl_inv hw
    split at hb
    · rename_i h0
      cases hb
      subst h0
      refine ⟨rfl, .string .empty, ?_, hnil⟩
      have := run_convert_bytes_back (P := P) w src dst e ⟨cb.blk, oc, none⟩ cap' [] hs he hd (fun j hj => by simp at hj)
      exact this
    · rename_i h0
      cases hrd : rdCells h b o len with
      | none => rw [hrd] at hb; cases hb
      | some l =>
        rw [hrd] at hb
        simp only [Option.bind_some] at hb
        cases hbs : Go.Eng.bytesOf l with
        | none => rw [hbs] at hb; cases hb
        | some ns =>
          rw [hbs] at hb
          cases hb
          obtain ⟨hlen, xs, hv, hxl, hc, _⟩ := rdCells_run hr hb' hrd
          obtain ⟨rfl, hby, hnl⟩ := bytesOf_inv hv hbs
          obtain ⟨r1, _⟩ := q4 (by omega)
          rw [cells_u8s hby] at hc
          have hul : (u8s ns).length = len := by rw [u8s_length, hnl, hlen]
          have := run_convert_bytes_back (P := P) w src dst e ⟨cb.blk, oc, none⟩ cap' (u8s ns) hs he hd (fun j hj => by
            rw [add_addr, r1]
            exact hc j _ (by rw [List.getElem?_map, List.getElem?_eq_getElem hj]; rfl))
          rw [hul] at this
          refine ⟨rfl, _, this, .str (view_str _ _) (by show (u8s ns).toArray.size = len; simpa using hul) (by rw [bytesL_u8s hby])⟩
  · cases hb
theorem conv_bytes (hr : HR cs φ h w) {src dst e : TypeId} (hs : P.underlying src = some .string) (hd : P.underlying dst = some (.slice e)) (he : P.underlying e = some (.int .u8)) {x v : V} {c : Value} {h' : H} {l s : Nat}
    (hx : VR φ x c) (hw : x.view = .str l s)
    (hb : (if h.room = true ∧ l ≤ 4164 then OR.val (vSl (.of h.next) 0 l l 1 false) (h.new (bCells l (mkCells ((unpackN s l).map fun b => vInt 4 (b + off63))) e 5000 false)) else .fail) = .val v h') :
    ∃ r w', (convert src dst c).run P w = .ok r w' ∧ Sim cs φ h w v h' r w' := by
  obtain ⟨st, rfl, e1, e2⟩ := hx.str_inv hw
  split at hb
  · rename_i hc
    cases hb
    have hrun := run_bytes_of_string (P := P) w src dst e st hs hd he
    have hcap : st.size ≤ grownCap w st.size 0 e := cut_appendCap _ _ _ _
    subst e1 e2
    rw [show unpackN (packL (bytesL st)) st.size = bytesL st by rw [← bytesL_length]; exact unpackN_packL _ (bytesL_bytes st)]
    generalize grownCap w st.size 0 e = cap at hrun hcap
    have hcells : (bytesRow st cap).size = cap := by
      simp [bytesRow]
      have : st.data.size = st.size := rfl
      omega
    have hlen : ((bytesL st).map fun b => vInt 4 (b + off63)).length = st.size := by simp [bytesL_length]
    have hk : HR cs φ h (drewW w) := hr.drew
    have h1 : HR cs (φ.add (.of h.next) ⟨w.heap.size, 0, cap⟩) (h.new (bCells st.size (mkCells ((bytesL st).map fun b => vInt 4 (b + off63))) e 5000 false))
        (pushed (drewW w) (.cells (bytesRow st cap) e ((bytesRow st cap).size, (bytesRow st cap).size + 1))) := by
      refine HR.new hk hc.1 ?_
      rw [bview_cells]
      refine ⟨bytesRow st cap, _, _, getElem?_push_new _ _, hcells, (by show 0 + st.size ≤ cap; omega), fun i hi => ?_, .inl (by omega), fun e => nomatch e⟩
      have hg : (mkCells ((bytesL st).map fun b => vInt 4 (b + off63))).get i = ((bytesL st).map fun b => vInt 4 (b + off63)).getD i vUnk := by
        unfold mkCells
        rw [setCells_get _ _ _ _ (by omega), if_pos (by omega)]
        rfl
      rw [hg]
      have hi2 : i < (bytesL st).length := by rw [bytesL_length]; exact hi
      have hgi : ((bytesL st).map fun b => vInt 4 (b + off63)).getD i vUnk = vInt 4 ((bytesL st)[i] + off63) := by
        rw [List.getD_eq_getElem?_getD, List.getElem?_map, List.getElem?_eq_getElem hi2]
        rfl
      rw [hgi]
      refine ⟨by simp [V.cell], .int .u8 ((bytesL st)[i] : Nat), ?_, VR.int (k := .u8) (view_int 4 _) (dI_add _)⟩
      have hi3 : i < st.data.size := hi
      show (bytesRow st cap)[0 + i]? = _
      unfold bytesRow
      rw [Nat.zero_add, Array.getElem?_append_left (by rw [Array.size_map]; exact hi3)]
      simp [bytesL]
      exact ⟨_, Array.getElem?_eq_getElem hi3, rfl⟩
    refine ⟨_, _, hrun, _, h1, Ext.drew.trans (Ext.new hk hc.1), ?_⟩
    refine .sl (view_sl _ _ _ _ _ _) (Phi.add_same _ _ _) (Nat.le_refl _) hcap (fun e => nomatch e) fun _ => ⟨rfl, ?_⟩
    show 0 + 0 + cap * 1 ≤ cap
    omega
  · cases hb
theorem frozen_row (hr : HR cs φ h w) {b : Id} {cb : CB} (hb : φ b = some cb) {sz : Nat} {c : Cs} {e fz fz' : Nat} {x : Bool} (hv : (h.blk b).view = .cells sz c e fz x) {o n : Nat} {sp : Option Nat}
    (hz : n ≠ 0) (hf : ∀ lo hi, (sz < fz ∨ lo = hi ∨ hi ≤ cb.off + fz) →
      (sz < fz' ∨ (if lo == hi then (o, o + n) else (min lo o, max hi (o + n))).1 = (if lo == hi then (o, o + n) else (min lo o, max hi (o + n))).2 ∨ (if lo == hi then (o, o + n) else (min lo o, max hi (o + n))).2 ≤ cb.off + fz')) :
    HR cs φ (h.put b (bCells sz c e fz' x)) (w.freeze ⟨cb.blk, o, sp⟩ n) ∧ Ext φ h w φ (h.put b (bCells sz c e fz' x)) (w.freeze ⟨cb.blk, o, sp⟩ n) := by
  have hB := hr.blks b cb hb
  rw [hv] at hB
  obtain ⟨cells, lo, hi, h1, h2, h3, h4, h5, h6⟩ := hB
  have hlt : cb.blk < w.heap.size := (Array.getElem?_eq_some_iff.1 h1).1
  have hw : ∀ B, (w.freeze ⟨cb.blk, o, sp⟩ n).heap[B]? = if cb.blk = B then some (.cells cells e (if lo == hi then (o, o + n) else (min lo o, max hi (o + n)))) else w.heap[B]? := by
    intro B
    unfold World.freeze
    rw [if_neg hz]
    show (w.heap.modify cb.blk _)[B]? = _
    rw [Array.getElem?_modify]
    split
    · rename_i e1
      subst e1
      rw [h1]
      rfl
    · rfl
  have hsize : (w.freeze ⟨cb.blk, o, sp⟩ n).heap.size = w.heap.size := by
    unfold World.freeze
    rw [if_neg hz]
    exact Array.size_modify
  have hoth : ∀ B, B ≠ cb.blk → (w.freeze ⟨cb.blk, o, sp⟩ n).heap[B]? = w.heap[B]? := fun B hB => by rw [hw, if_neg (Ne.symm hB)]
  have hdead : (h.blk b).view.isDead = false := by rw [hv]; rfl
  have htab : (h.blk b).view.isTab = false := by rw [hv]; rfl
  have hrest : (w.freeze ⟨cb.blk, o, sp⟩ n).os = w.os ∧ (w.freeze ⟨cb.blk, o, sp⟩ n).output = w.output ∧ (w.freeze ⟨cb.blk, o, sp⟩ n).tape = w.tape := by
    unfold World.freeze
    rw [if_neg hz]
    exact ⟨rfl, rfl, rfl⟩
  refine ⟨hr.put hb hdead hoth ?_, Ext.put hb htab hoth hsize hrest.1 hrest.2.1 hrest.2.2⟩
  rw [bview_cells]
  refine ⟨cells, (if lo == hi then (o, o + n) else (min lo o, max hi (o + n))).1, (if lo == hi then (o, o + n) else (min lo o, max hi (o + n))).2, ?_, h2, h3, h4, hf lo hi h5, h6⟩
  rw [hw, if_pos rfl]
theorem conv_mark (hr : HR cs φ h w) {src e : TypeId} (hs : P.underlying src = some (.slice e)) (he : P.underlying e = some (.int .u8)) {x v : V} {c : Value} {h' : H} {b : Id} {o len cap es : Nat} {ex : Bool}
    (hx : VR φ x c) (hw : x.view = .sl b o len cap es ex)
    (hb : (match (h.blk b).view with
      | .cells sz c e _ x0 => OR.val x (h.put b (bCells sz c e (sz + 1) x0))
      | _ => .fail) = .val v h') : ∃ r w', (convert src src c).run P w = .ok r w' ∧ Sim cs φ h w v h' r w' := by
  obtain ⟨cb, oc, cap', hb', rfl, q1, q2, q3, q4⟩ := hx.sl_inv hw
  split at hb
  · rename_i sz cc e' fz x0 hv
    cases hb
    have hB := hr.blks b cb hb'
    rw [hv] at hB
    obtain ⟨cells, lo, hi, h1, _⟩ := hB
    have hsh : w.shape? cb.blk = some (e', cells.size) := by unfold World.shape?; rw [h1]
    obtain ⟨g1, g2⟩ := frozen_row (o := cells.size) (n := 1) (sp := none) (fz' := sz + 1) hr hb' hv (by decide) (fun _ _ _ => .inl (by omega))
    refine ⟨_, _, ?_, φ, g1, g2, hx.mono (Phi.le_refl _)⟩
    simp [convert, Go.run_underlying hs, Go.run_underlying he, markStringish, hsh, Result.andThen]
  · cases hb
theorem conv_toUns (hr : HR cs φ h w) {src dst t : TypeId} (hs : P.underlying src = some (.pointer t)) (hd : P.underlying dst = some .unsafePointer) {i : TyI} (ht : TyOK P t i) (hz : i.size ≠ 0) {x v : V} {c : Value} {h' : H} {b : Id} {o : Nat}
    (hx : VR φ x c) (hw : x.view = .ptr b o)
    (hb : (match (h.blk b).view with
      | .cells sz _ _ _ _ => if o < sz then OR.val x h else .fail
      | _ => .fail) = .val v h') : h' = h ∧ (convert src dst c).run P w = .ok c w ∧ v = x := by
  obtain ⟨cb, hb', rfl⟩ := hx.ptr_inv hw
  split at hb
  · rename_i sz cc e' fz x0 hv
    split at hb
    · rename_i hlt
      cases hb
      have hB := hr.blks b cb hb'
      rw [hv] at hB
      obtain ⟨cells, lo, hi, h1, h2, h3, _⟩ := hB
      have hsh : w.shape? cb.blk = some (e', cells.size) := by unfold World.shape?; rw [h1]
      have hno : ¬ cells.size ≤ cb.off + o := by omega
      refine ⟨rfl, ?_, rfl⟩
      simp [convert, Go.run_underlying hs, Go.run_underlying hd, Conv.unsafePointer, Conv.seenAt, viewAt, cellsIn, hsh, Result.andThen, Go.Eng.run_sizeOf ht, hz, hno]
    · cases hb
  · cases hb
theorem conv_ofUns (hr : HR cs φ h w) {src dst u : TypeId} (hs : P.underlying src = some .unsafePointer) (hd : P.underlying dst = some (.pointer u)) {l : List (Nat × Nat × Nat)}
    (hl : ∀ e o sz, okUns e o sz l = true → liesAt P P.depth e (sz / P.cellsOf e) o u 1 = true) {x v : V} {c : Value} {h' : H} {b : Id} {o : Nat}
    (hx : VR φ x c) (hw : x.view = .ptr b o)
    (hb : (match (h.blk b).view with
      | .cells sz _ e _ true => if okUns e o sz l then OR.val x h else .fail
      | _ => .fail) = .val v h') {iu : TyI} (hu : TyOK P u iu) : h' = h ∧ (convert src dst c).run P w = .ok c w ∧ v = x := by
  obtain ⟨cb, hb', rfl⟩ := hx.ptr_inv hw
  split at hb
  · rename_i sz cc e' fz hv
    split at hb
    · rename_i hok
      cases hb
      have hB := hr.blks b cb hb'
      rw [hv] at hB
      obtain ⟨cells, lo, hi, h1, h2, h3, h4, h5, h6⟩ := hB
      obtain ⟨g1, g2⟩ := h6 rfl
      have hsh : w.shape? cb.blk = some (e', cells.size) := by unfold World.shape?; rw [h1]
      have hlie : liesAt P P.depth e' (cells.size / P.cellsOf e') (cb.off + o) u 1 = true := by
        rw [h2, g2, g1, Nat.zero_add]
        exact hl _ _ _ hok
      refine ⟨rfl, ?_, rfl⟩
      simp [convert, Go.run_underlying hs, Go.run_underlying hd, Conv.unsafePointer, Conv.seenAt, viewAt, hsh, Result.andThen, variablesAt, hlie, Go.Eng.run_sizeOf hu]
    · cases hb
  · cases hb
end Go.Eng
end
section
namespace Go.Eng
variable {P : Program} {cs : Nat → Option CSite} {φ : Phi} {h : H} {w : World}
theorem unsafeSliceData_run {x v : V} {c : Value} {h' : H} (hx : VR φ x c) (ts : Array TypeId) (ty : TypeId)
    (hb : (match x.view with
      | .nils => OR.val vNilp h
      | .sl b o _ c _ _ => if 0 < c then .val (vPtr b o) h else .fail
      | _ => .fail) = .val v h') : h' = h ∧ ∃ r, (Builtin.unsafeSliceData_ ts ty #[c]).run P w = .ok r w ∧ VR φ v r := by
  split at hb
  · rename_i hw
    cases hb
    cases hx.nils_inv hw
    exact ⟨rfl, _, Lib.run_unsafeSliceData_nil w ts ty 0 0, .nilp (view_nilp)⟩
  · rename_i b o len cap es ex hw
    obtain ⟨cb, oc, cap', hb', rfl, q1, q2, q3, q4⟩ := hx.sl_inv hw
    split at hb
    · rename_i h0
      cases hb
      obtain ⟨r1, _⟩ := q4 (by omega)
      exact ⟨rfl, _, Lib.run_unsafeSliceData_row w ts ty ⟨cb.blk, oc, none⟩ len cap' (by omega), by rw [r1]; exact .ptr (view_ptr _ _) hb'⟩
    · cases hb
  · cases hb
theorem liesAt_u8 {e : TypeId} (hc : P.cellsOf e = 1) (count o n : Nat) (hn : o + n ≤ count) : liesAt P P.depth e count o e n = true := by
  have hd : P.depth = (2 * (P.types.size + Made.depth) + 1) + 1 := rfl
  rw [hd]
  simp only [liesAt, Bool.or_eq_true]
  left
  rw [hd]
  simp [rowAt, hc, hn, sameLayout, Nat.mod_one]
theorem unsafeString_def (pt it ty : TypeId) (p : Option Addr) (d : Value) : Builtin.unsafeString_ #[pt, it] ty #[.pointer p, d] = (do
    let n ← asInt d
    if n < 0 then runtimePanic (.error "unsafe.String: len out of range")
    if n > IntKind.i64.max then unsupported (.unsafePointer "String: a length above the largest int")
    match p with
    | none =>
      if n = 0 then pure (.string .empty)
      else runtimePanic (.error "unsafe.String: ptr is nil and len is not zero")
    | some a =>
      if n = 0 then pure (.string .empty)
      else if ← variablesAt a (← elemOf pt) n.toNat then do
        let s ← loadBytes a .empty n.toNat
        freeze a n.toNat
        pure (.string s)
      else unsupported (.unsafePointer "String: not so many bytes at ptr")) := rfl
theorem unsafeString_run (hr : HR cs φ h w) {pt it u : TypeId} (hp : P.underlying pt = some (.pointer u)) (hc1 : P.cellsOf u = 1) {x y v : V} {c d : Value} {h' : H} (hx : VR φ x c) (hy : VR φ y d) (ty : TypeId)
    (hb : (match natOf y with
      | some n => match x.view with
        | .nilp => if n = 0 then OR.val (vStr 0 0) h else .fail
        | .ptr b o => if n = 0 then .val (vStr 0 0) h else match (h.blk b).view with
          | .cells sz c e fz x => if fz ≤ sz ∧ e = u then match (rdCells h b o n).bind Go.Eng.bytesOf with
            | some l => .val (vStr n (packL l)) (h.put b (bCells sz c e sz x))
            | none => .fail
            else .fail
          | _ => .fail
        | _ => .fail
      | none => .fail) = .val v h') : ∃ r w', (Builtin.unsafeString_ #[pt, it] ty #[c, d]).run P w = .ok r w' ∧ Sim cs φ h w v h' r w' := by
  have hnil : VR φ (vStr 0 0) (.string .empty) := .str (view_str _ _) rfl rfl
  have hmax : IntKind.i64.max = 9223372036854775807 := rfl
  cases hn : natOf y with
  | none => rw [hn] at hb; cases hb
  | some n =>
    rw [hn] at hb
    simp only at hb
    obtain ⟨κ, rfl⟩ := natOf_inv hy hn
    have h0 : ¬ (n : Int) < 0 := by omega
    split at hb
    · rename_i hw
      cases hx.nilp_inv hw
      split at hb
      · rename_i hz
        cases hb
        subst hz
        refine ⟨.string .empty, w, ?_, φ, hr, .refl _ _ _, hnil⟩
        simp [unsafeString_def, asInt, asIntOf, hmax]
      · cases hb
    · rename_i b o hw
      obtain ⟨cb, hb', rfl⟩ := hx.ptr_inv hw
      split at hb
      · rename_i hz
        cases hb
        subst hz
        refine ⟨.string .empty, w, ?_, φ, hr, .refl _ _ _, hnil⟩
        simp [unsafeString_def, asInt, asIntOf, hmax]
      · rename_i hz
        split at hb
        · rename_i sz cc e fz x0 hv
          split at hb
          · rename_i hfe
            obtain ⟨hfz, rfl⟩ := hfe
            cases hrd : rdCells h b o n with
            | none => rw [hrd] at hb; cases hb
            | some l =>
              rw [hrd] at hb
              simp only [Option.bind_some] at hb
              cases hbs : Go.Eng.bytesOf l with
              | none => rw [hbs] at hb; cases hb
              | some ns =>
                rw [hbs] at hb
                cases hb
                obtain ⟨hlen, xs, hvl, hxl, hc, _⟩ := rdCells_run hr hb' hrd
                obtain ⟨rfl, hby, hnl⟩ := bytesOf_inv hvl hbs
                have hB := hr.blks b cb hb'
                rw [hv] at hB
                obtain ⟨cells, lo, hi, h1, h2, h3, h4, h5, h6⟩ := hB
                have hsh : w.shape? cb.blk = some (e, cells.size) := by unfold World.shape?; rw [h1]
                have hon : o + n ≤ sz ∧ sz ≤ 4164 := by
                  unfold rdCells at hrd
                  rw [hv] at hrd
                  simp only at hrd
                  split at hrd
                  · assumption
                  · cases hrd
                have hlie : liesAt P P.depth e (cells.size / P.cellsOf e) (cb.off + o) e n = true := by
                  rw [hc1, Nat.div_one]
                  exact liesAt_u8 hc1 _ _ _ (by omega)
                rw [cells_u8s hby] at hc
                have hul : (u8s ns).length = n := by rw [u8s_length, hnl, hlen]
                have hld := Lib.run_loadBytes (P := P) w (u8s ns) ⟨cb.blk, cb.off + o, none⟩ .empty (fun j x hj => by
                  rw [add_addr]
                  exact hc j _ (by rw [List.getElem?_map, hj]; rfl))
                rw [hul] at hld
                obtain ⟨g1, g2⟩ := frozen_row (o := cb.off + o) (n := n) (sp := none) (fz' := sz) hr hb' hv hz (fun lo hi hlh => by
                  right
                  split
                  · right; show cb.off + o + n ≤ cb.off + sz; omega
                  · rename_i hne
                    have : lo ≠ hi := fun e => hne (by simp [e])
                    right
                    show max hi (cb.off + o + n) ≤ cb.off + sz
                    omega)
                refine ⟨_, _, ?_, φ, g1, g2, .str (s := ⟨ByteArray.empty.data ++ (u8s ns).toArray⟩) (view_str _ _) ?_ ?_⟩
                · have hle : ¬ (n : Int) > 9223372036854775807 := by omega
                  have hn0 : ¬ (n : Int) = 0 := by omega
                  simp only [unsafeString_def, Sem.run_bind, asInt, asIntOf, Sem.run_pure, Result.andThen, h0, if_false, hmax, hle, hn0, elemOf, Go.run_underlying hp, variablesAt, run_program, run_shape, hsh, hlie, if_true, Int.toNat_natCast, hld, run_freeze]
                · show (ByteArray.empty.data ++ (u8s ns).toArray).size = n
                  have : ByteArray.empty.data = #[] := rfl
                  rw [this]
                  simpa using hul
                · have : ByteArray.empty.data = #[] := rfl
                  rw [this, Array.empty_append, bytesL_u8s hby]
          · cases hb
        · cases hb
    · cases hb
theorem mm_run (mx : Bool) {k : Nat} {κ : IntKind} (hk : k = kTo κ) {a b : Nat} {m n : Int} (ha : dI a = m) (hb : dI b = n) :
    ((if mx then Builtin.max2 else Builtin.min2) (.int κ m) (.int κ n)).run P w = .ok (.int κ (dI (mm mx a b))) w := by
  subst ha hb
  have key : ∀ a b : Nat, (dI b > dI a ↔ b > a) ∧ (dI b < dI a ↔ b < a) := by
    intro a b
    unfold dI
    generalize off63 = o
    omega
  cases mx
  · simp only [Bool.false_eq_true, if_false, Builtin.min2, Sem.run_pure, mm]
    by_cases hlt : b < a
    · rw [if_pos hlt, if_pos ((key a b).2.2 hlt)]
    · rw [if_neg hlt, if_neg (fun e => hlt ((key a b).2.1 e))]
  · simp only [if_true, Builtin.max2, Sem.run_pure, mm]
    by_cases hlt : b > a
    · rw [if_pos hlt, if_pos ((key a b).1.2 hlt)]
    · rw [if_neg hlt, if_neg (fun e => hlt ((key a b).1.1 e))]
theorem mmL_run (mx : Bool) {κ : IntKind} : ∀ {vs : List V} {cs : List Value} {a r : Nat}, VRL φ vs cs → mmL mx (kTo κ) a vs = some r →
    (cs.foldlM (if mx then Builtin.max2 else Builtin.min2) (.int κ (dI a))).run P w = .ok (.int κ (dI r)) w
  | [], _, a, r, hv, hm => by
    cases hv
    simp only [mmL] at hm
    cases hm
    rfl
  | v :: vs, _, a, r, hv, hm => by
    cases hv with
    | cons h1 h2 =>
      simp only [mmL] at hm
      split at hm
      · rename_i j b hw
        split at hm
        · rename_i hj
          obtain ⟨κ', n, hk, hn, rfl⟩ := h1.int_inv hw
          have : κ' = κ := by
            have h3 : kTo κ' = kTo κ := hk.symm.trans hj
            rw [← kOf_kTo κ', h3, kOf_kTo]
          subst this
          have := mm_run (P := P) (w := w) mx (k := kTo κ') rfl (a := a) (b := b) rfl hn
          simp only [List.foldlM_cons, Sem.run_bind, this, Result.andThen]
          exact mmL_run mx h2 hm
        · cases hm
      · cases hm
theorem minmax_run (mx : Bool) {x v : V} {c : Value} {h' : H} {xs : List V} {cs : List Value} (hx : VR φ x c) (hxs : VRL φ xs cs) (ts : Array TypeId) (ty : TypeId)
    (hb : (match x.view with
      | .int k a => match mmL mx k a xs with
        | some r => OR.val (vInt k r) h
        | none => .fail
      | _ => .fail) = .val v h') : h' = h ∧ ∃ r, ((if mx then Builtin.max_ else Builtin.min_) ts ty (c :: cs).toArray).run P w = .ok r w ∧ VR φ v r := by
  split at hb
  · rename_i k a hw
    obtain ⟨κ, n, rfl, rfl, rfl⟩ := hx.int_inv hw
    split at hb
    · rename_i r hm
      cases hb
      refine ⟨rfl, .int κ (dI r), ?_, .int (view_int _ _) rfl⟩
      have := mmL_run (P := P) (w := w) mx hxs hm
      cases mx <;> simpa [Builtin.max_, Builtin.min_] using this
    · cases hb
  · cases hb
theorem typeAssert_run {x v : V} {c : Value} {h' : H} (hx : VR φ x c) {xT t : TypeId} {i : TyI} (ht : TyOK P t i) (hi : ∀ m, i.desc ≠ .interface m) (ok : Bool) {z : V} (hz : ok = true → i.zero = some z)
    (hb : (match x.view with
      | .nili => if ok then OR.val (vTup [z, vBool false]) h else .fail
      | .iface u v => if u = t then .val (if ok then vTup [v, vBool true] else v) h
        else if ok then .val (vTup [z, vBool false]) h else .fail
      | _ => .fail) = .val v h') : h' = h ∧ ∃ r, (Instr.typeAssert c xT t ok).run P w = .ok r w ∧ VR φ v r := by
  have hu := Go.Eng.run_underlying (w := w) ht
  have hfalse : VR φ (vBool false) (.bool false) := .bool (view_bool _)
  have htrue : VR φ (vBool true) (.bool true) := .bool (view_bool _)
  split at hb
  · rename_i hw
    cases hx.nili_inv hw
    split at hb
    · rename_i hok
      subst hok
      cases hb
      obtain ⟨zc, hzr, hzv⟩ := run_zeroValue (w := w) ht (hz rfl)
      refine ⟨rfl, .tuple #[zc, .bool false], ?_, .tup (view_tup _) (.cons (hzv φ) (.cons hfalse .nil))⟩
      cases hd : i.desc <;> first | (exact absurd hd (hi _)) | (simp [Instr.typeAssert, hu, hd, hzr])
    · cases hb
  · rename_i u y hw
    obtain ⟨c', rfl, hy⟩ := hx.iface_inv hw
    split at hb
    · rename_i hut
      subst hut
      cases hb
      refine ⟨rfl, (if ok then .tuple #[c', .bool true] else c'), ?_, ?_⟩
      · cases hd : i.desc <;> first | (exact absurd hd (hi _)) | (simp [Instr.typeAssert, hu, hd])
      · cases ok
        · exact hy
        · exact .tup (view_tup _) (.cons hy (.cons htrue .nil))
    · rename_i hut
      split at hb
      · rename_i hok
        subst hok
        cases hb
        obtain ⟨zc, hzr, hzv⟩ := run_zeroValue (w := w) ht (hz rfl)
        refine ⟨rfl, .tuple #[zc, .bool false], ?_, .tup (view_tup _) (.cons (hzv φ) (.cons hfalse .nil))⟩
        cases hd : i.desc <;> first | (exact absurd hd (hi _)) | (simp [Instr.typeAssert, hu, hd, hut, hzr])
      · cases hb
  · cases hb
end Go.Eng
end
section
namespace Go.Eng
variable {P : Program} {cs : Nat → Option CSite} {φ : Phi} {h : H} {w : World}
def lenDesc (P : Program) (k : LenK) (d : TypeDesc) : Prop := match k with
  | .str => d = .string
  | .arr n => (∃ e, d = .array n e) ∨ ∃ a e, d = .pointer a ∧ P.underlying a = some (.array n e)
  | .sl => ∃ e, d = .slice e
  | .mp => ∃ a b, d = .map a b
theorem len_run (hr : HR cs φ h w) {t : TypeId} {d : TypeDesc} (hd : P.underlying t = some d) {k : LenK} (hk : lenDesc P k d) {x v : V} {c : Value} {h' : H} (hx : VR φ x c) (ty : TypeId)
    (hb : (match k, x.view with
      | .str, .str l _ => OR.val (vI64 l) h
      | .arr n, _ => .val (vI64 n) h
      | .sl, .nils => .val (vI64 0) h
      | .sl, .sl _ _ n _ _ _ => .val (vI64 n) h
      | .mp, .nilm => .val (vI64 0) h
      | .mp, .mp b => match (h.blk b).view with
        | .map es _ => .val (vI64 es.length) h
        | _ => .fail
      | _, _ => .fail) = .val v h') : h' = h ∧ ∃ r, (Builtin.len_ #[t] ty #[c]).run P w = .ok r w ∧ VR φ v r := by
  have hu : (underlying t).run P w = .ok d w := by simp [underlying, hd]
  split at hb
  · rename_i l s hw
    cases hb
    obtain ⟨st, rfl, h1, h2⟩ := hx.str_inv hw
    cases hk
    refine ⟨rfl, goInt st.size, ?_, by rw [← h1]; exact VR.i64 _⟩
    simp [Builtin.len_, hu]
  · rename_i n
    cases hb
    refine ⟨rfl, goInt n, ?_, VR.i64 _⟩
    rcases hk with ⟨e, rfl⟩ | ⟨a, e, rfl, ha⟩
    · cases c <;> simp [Builtin.len_, hu]
    · have hua : (underlying a).run P w = .ok (.array n e) w := by simp [underlying, ha]
      cases c <;> simp [Builtin.len_, hu, hua]
  · rename_i hw
    cases hb
    obtain ⟨e, rfl⟩ := hk
    cases hx.nils_inv hw
    refine ⟨rfl, goInt (0 : Nat), ?_, VR.i64 0⟩
    simp [Builtin.len_, hu]
  · rename_i b o n cap es ex hw
    cases hb
    obtain ⟨e, rfl⟩ := hk
    obtain ⟨cb, oc, cap', hb', rfl, q1, q2, q3, q4⟩ := hx.sl_inv hw
    refine ⟨rfl, goInt n, ?_, VR.i64 n⟩
    simp [Builtin.len_, hu]
  · rename_i hw
    cases hb
    obtain ⟨a, b, rfl⟩ := hk
    cases hx.nilm_inv hw
    refine ⟨rfl, goInt (0 : Nat), ?_, VR.i64 0⟩
    simp [Builtin.len_, hu]
  · rename_i b hw
    obtain ⟨a, b', rfl⟩ := hk
    obtain ⟨cb, hb', rfl⟩ := hx.mp_inv hw
    split at hb
    · rename_i es clk hv
      cases hb
      obtain ⟨ces, hm, hes⟩ := map_blk hr hb' hv
      refine ⟨rfl, goInt ces.size, ?_, ?_⟩
      · simp [Builtin.len_, hu, run_getMap hm]
      · have : es.length = ces.size := hes.length
        rw [this]
        exact VR.i64 _
    · cases hb
  · cases hb
theorem cap_run {t : TypeId} {d : TypeDesc} (hd : P.underlying t = some d) {k : LenK} (hk : lenDesc P k d) {x v : V} {c : Value} {h' : H} (hx : VR φ x c) (ty : TypeId)
    (hb : (match k, x.view with
      | .arr n, _ => OR.val (vI64 n) h
      | .sl, .nils => .val (vI64 0) h
      | .sl, .sl _ _ _ c _ ex => if ex then .val (vI64 c) h else .fail
      | _, _ => .fail) = .val v h') : h' = h ∧ ∃ r, (Builtin.cap_ #[t] ty #[c]).run P w = .ok r w ∧ VR φ v r := by
  have hu : (underlying t).run P w = .ok d w := by simp [underlying, hd]
  split at hb
  · rename_i n
    cases hb
    refine ⟨rfl, goInt n, ?_, VR.i64 _⟩
    rcases hk with ⟨e, rfl⟩ | ⟨a, e, rfl, ha⟩
    · cases c <;> simp [Builtin.cap_, hu]
    · have hua : (underlying a).run P w = .ok (.array n e) w := by simp [underlying, ha]
      cases c <;> simp [Builtin.cap_, hu, hua]
  · rename_i hw
    cases hb
    obtain ⟨e, rfl⟩ := hk
    cases hx.nils_inv hw
    refine ⟨rfl, goInt (0 : Nat), ?_, VR.i64 0⟩
    simp [Builtin.cap_, hu]
  · rename_i b o n cap es ex hw
    split at hb
    · rename_i hex
      cases hb
      obtain ⟨e, rfl⟩ := hk
      obtain ⟨cb, oc, cap', hb', rfl, q1, q2, q3, q4⟩ := hx.sl_inv hw
      have := q3 hex
      subst this
      refine ⟨rfl, goInt cap', ?_, VR.i64 cap'⟩
      simp [Builtin.cap_, hu]
    · cases hb
  · cases hb
theorem nilCheck_run {x v : V} {c : Value} {h' : H} (hx : VR φ x c)
    (hb : (match x.view with
      | .ptr b o => OR.val (vPtr b o) h
      | .fn f n l => .val (vFn f n l) h
      | _ => .fail) = .val v h') : h' = h ∧ VR φ v c ∧ ((∃ a, c = .pointer (some a)) ∨ ∃ f a b, c = .func (.func f) a b) := by
  split at hb
  · rename_i b o hw
    cases hb
    obtain ⟨cb, hb', rfl⟩ := hx.ptr_inv hw
    exact ⟨rfl, .ptr (view_ptr _ _) hb', .inl ⟨_, rfl⟩⟩
  · rename_i f n l hw
    cases hb
    obtain ⟨a, b, rfl, h1, h2⟩ := hx.fn_inv hw
    exact ⟨rfl, .fn (view_fn _ _ _) h1 h2, .inr ⟨_, _, _, rfl⟩⟩
  · cases hb
theorem mkIface_run {t : TypeId} {i : TyI} (ht : TyOK P t i) (hi : ∀ m, i.desc ≠ .interface m) (c : Value) : (Instr.makeInterface t c).run P w = .ok (.iface t c) w := by
  have hu := Go.Eng.run_underlying (w := w) ht
  cases hd : i.desc <;> first | (exact absurd hd (hi _)) | (simp [Instr.makeInterface, hu, hd])
theorem clear_run (hr : HR cs φ h w) {t : TypeId} {d : TypeDesc} (hd : P.underlying t = some d) {zs : Option (List V)} (hk : match zs with
      | some l => ∃ e i z, d = .slice e ∧ TyOK P e i ∧ i.zero = some z ∧ l = cellsOf z
      | none => ∃ a b, d = .map a b) {x v : V} {c : Value} {h' : H} (hx : VR φ x c) (ty : TypeId)
    (hb : (match zs, x.view with
      | _, .nils => OR.val (vTup []) h
      | _, .nilm => .val (vTup []) h
      | some zs, .sl b o len _ _ _ => if len = 0 then .val (vTup []) h else match storeA h b o (rep zs len) with
        | some h => .val (vTup []) h
        | none => .fail
      | none, .mp b => match (h.blk b).view with
        | .map _ clk => .val (vTup []) (h.put b (bMap [] clk))
        | _ => .fail
      | _, _ => .fail) = .val v h') : ∃ r w', (Builtin.clear_ #[t] ty #[c]).run P w = .ok r w' ∧ Sim cs φ h w v h' r w' := by
  have hu : (underlying t).run P w = .ok d w := by simp [underlying, hd]
  have hno : VR φ (vTup []) (.tuple #[]) := .tup (view_tup _) .nil
  split at hb
  · rename_i hw
    cases hb
    cases hx.nils_inv hw
    refine ⟨.tuple #[], w, ?_, φ, hr, .refl _ _ _, hno⟩
    cases d <;> simp [Builtin.clear_, hu]
  · rename_i hw
    cases hb
    cases hx.nilm_inv hw
    refine ⟨.tuple #[], w, ?_, φ, hr, .refl _ _ _, hno⟩
    cases d <;> simp [Builtin.clear_, hu]
  · rename_i zs b o len cap es ex hw
    obtain ⟨e, i, z, rfl, he, hz, rfl⟩ := hk
    obtain ⟨cb, oc, cap', hb', rfl, q1, q2, q3, q4⟩ := hx.sl_inv hw
    split at hb
    · rename_i h0
      cases hb
      subst h0
      refine ⟨.tuple #[], w, ?_, φ, hr, .refl _ _ _, hno⟩
      simp [Builtin.clear_, hu]
    · rename_i h0
      split at hb
      · rename_i h2 hs
        cases hb
        obtain ⟨zc, hzr, hzsz, hzk, hzv⟩ := run_zeroValues he hz
        have hzz := cellsOf_run (hzv φ) hzk
        obtain ⟨r1, _⟩ := q4 (by omega)
        obtain ⟨w', hrun, hr', hext⟩ := storeA_run (P := P) hr hb' hs (rep_VRL hzz len)
        refine ⟨.tuple #[], w', ?_, φ, hr', hext, hno⟩
        obtain ⟨len', rfl⟩ : ∃ k, len = k + 1 := ⟨len - 1, by omega⟩
        rw [← r1] at hrun
        have hz2 := hzr w
        have hzl : (Builtin.zeroCells zc.cells (len' + 1)).toList = cyc zc.cells.toList (len' + 1) := by rw [zeroCells_eq]
        simp [Builtin.clear_, hu, hz2, hzl, hrun]
      · cases hb
  · rename_i b hw
    obtain ⟨a, b', rfl⟩ := hk
    obtain ⟨cb, hb', rfl⟩ := hx.mp_inv hw
    split at hb
    · rename_i es clk hv
      cases hb
      obtain ⟨ces, hm, hes⟩ := map_blk hr hb' hv
      obtain ⟨g1, g2⟩ := put_map hr hb' hv hm (es' := []) (clk' := clk) (ces' := #[]) .nil
      refine ⟨.tuple #[], _, ?_, φ, g1, g2, hno⟩
      simp [Builtin.clear_, hu, run_getMap hm, run_setMap hm]
    · cases hb
  · cases hb
end Go.Eng
end
section
namespace Go.Eng
structure Tab where
  ty : Nat → Option TyI
  eq : Nat → Option EqK
  gl : Nat → Option Id
  uns : Nat → List (Nat × Nat × Nat)
  ext : Nat → Option Nat
def oMap {α β : Type} (f : α → Option β) : List α → Option (List β)
  | [] => some []
  | a :: l => match f a, oMap f l with
    | some b, some r => some (b :: r)
    | _, _ => none
def cV : Nat → Value → Option V
  | 0, _ => none
  | n + 1, v => match v with
    | .bool b => some (vBool b)
    | .int k a => if -9223372036854775808 ≤ a then some (vInt (kTo k) (eI a)) else none
    | .string s => some (vStr s.size (packL (bytesL s)))
    | .pointer none => some vNilp
    | .slice none 0 0 => some vNils
    | .map none => some vNilm
    | .nilFunc => some vNilf
    | .nilIface => some vNili
    | .agg c => (oMap (cV n) c.toList).map vAgg
    | .tuple c => (oMap (cV n) c.toList).map vTup
    | .iface t x => (cV n x).map (vIface t)
    | .func (.func f) a b => match oMap (cV n) a.toList, oMap (cV n) b.toList with
      | some x, some y => some (vFn f x.length (x ++ y))
      | _, _ => none
    | _ => none
def cX (T : Tab) : Operand → Option IX
  | .tmp t => some (.t t)
  | .const v => (cV 20 v).map .c
  | .global g => (T.gl g).map fun b => .c (vPtr b 0)
  | .func f => some (.c (vFn f 0 []))
def aggN (i : TyI) : Option Nat := if i.agg then some i.size else none
def cParts (T : Tab) (pl : List (Nat × Nat)) : List (Nat × Operand) → Option (List (Nat × Nat × IX))
  | [] => some []
  | (k, x) :: l => match pl[k]?, cX T x, cParts T pl l with
    | some (o, n), some y, some r => some ((o, n, y) :: r)
    | _, _, _ => none
def cRow (T : Tab) (s : Nat) : List (Nat × Operand) → Option (List (Nat × Nat × IX))
  | [] => some []
  | (k, x) :: l => match cX T x, cRow T s l with
    | some y, some r => some ((k * s, s, y) :: r)
    | _, _ => none
def cElems (T : Tab) : List (Nat × Operand) → Option (List (Nat × IX))
  | [] => some []
  | (k, x) :: l => match cX T x, cElems T l with
    | some y, some r => some ((k, y) :: r)
    | _, _ => none
def cFields (T : Tab) : List Field → Option (List (Nat × Nat))
  | [] => some []
  | f :: l => match T.ty f.type, cFields T l with
    | some i, some r => some ((f.offset, i.size) :: r)
    | _, _ => none
def cO (T : Tab) : Option Operand → Option (Option IX)
  | none => some none
  | some x => (cX T x).map some
def cLen (T : Tab) (t : Nat) : Option LenK := match T.ty t with
  | some i => match i.desc with
    | .string => some .str
    | .array n _ => some (.arr n)
    | .pointer a => match T.ty a with
      | some j => match j.desc with
        | .array n _ => some (.arr n)
        | _ => none
      | none => none
    | .slice _ => some .sl
    | .map _ _ => some .mp
    | _ => none
  | none => none
def isIface : TypeDesc → Bool
  | .interface _ => true
  | _ => false
def isU8 (T : Tab) (e : Nat) : Bool := match T.ty e with
  | some i => match i.desc with
    | .int .u8 => true
    | _ => false
  | none => false
def cConv (T : Tab) (s d : TypeId) : Option CvK := match T.ty s, T.ty d with
  | some a, some b => match a.desc, b.desc with
    | .int _, .int k => some (.int (kTo k))
    | .string, .string => some .same
    | .slice e, .string => if isU8 T e then some .tostr else none
    | .string, .slice e => if isU8 T e then some (.bytes e) else none
    | .slice e, .slice _ => if isU8 T e && s == d then some .mark else none
    | .pointer t, .unsafePointer => match T.ty t with
      | some i => if i.size = 0 then none else some .toUns
      | none => none
    | .unsafePointer, .pointer u => match T.ty u with
      | some _ => some (.ofUns (T.uns u))
      | none => none
    | _, _ => none
  | _, _ => none
def cBuiltin (T : Tab) (b : Builtin) (ts : List TypeId) (args : List IX) : Option IOp := match b, ts, args with
  | .len, [t], [x] => (cLen T t).map fun k => .len k x
  | .cap, [t], [x] => match cLen T t with
    | some (.arr n) => some (.cap (.arr n) x)
    | some .sl => some (.cap .sl x)
    | _ => none
  | .append, [sT, xT], [s, x] => match T.ty sT, T.ty xT with
    | some a, some b => match a.desc with
      | .slice e => match T.ty e with
        | some i => match i.zero with
          | some z => some (.append e i.size i.bytes (if isIntD b.desc then some (cellsOf z) else none) s x)
          | none => none
        | none => none
      | _ => none
    | _, _ => none
  | .copy, [dT, _], [d, s] => match T.ty dT with
    | some a => match a.desc with
      | .slice e => match T.ty e with
        | some i => some (.copy i.size d s)
        | none => none
      | _ => none
    | none => none
  | .min, _, x :: xs => some (.minmax false x xs)
  | .max, _, x :: xs => some (.minmax true x xs)
  | .recover, _, _ => some .recover
  | .clear, [t], [x] => match T.ty t with
    | some a => match a.desc with
      | .slice e => match T.ty e with
        | some i => i.zero.map fun z => .clear (some (cellsOf z)) x
        | none => none
      | .map _ _ => some (.clear none x)
      | _ => none
    | none => none
  | .unsafeString, [pt, _], [p, n] => match T.ty pt with
    | some a => match a.desc with
      | .pointer u => match T.ty u with
        | some i => if i.size = 1 then some (.unsafeString u p n) else none
        | none => none
      | _ => none
    | none => none
  | .unsafeSliceData, _, [x] => some (.unsafeSliceData x)
  | .panic, _, [x] => some (.panic x)
  | _, _, _ => none
def EqK.ownB (k : EqK) : Bool := k.own
def EqK.ifaceB : EqK → Bool
  | .iface => true
  | _ => false
def cOp (T : Tab) : Op → Option IOp
  | .move x | .assign x => (cX T x).map .mv
  | .pick c a b => match cX T c, cX T a, cX T b with
    | some c, some a, some b => some (.pick c a b)
    | _, _, _ => none
  | .alloc t => match T.ty t with
    | some i => i.zero.map fun z => .alloc (cellsOf z) t
    | none => none
  | .box t x => match cX T x with
    | some x => some (.box t x)
    | none => none
  | .build t ps => match T.ty t with
    | some i => match i.zero, i.desc with
      | some z, .struct fs => match cFields T fs.toList with
        | some pl => (cParts T pl ps.toList).map (.build (cellsOf z))
        | none => none
      | some z, .array _ e => match T.ty e with
        | some ie => (cRow T ie.size ps.toList).map (.build (cellsOf z))
        | none => none
      | _, _ => none
    | none => none
  | .buildSlice t n ps => match T.ty t with
    | some i => match i.desc with
      | .slice e => match T.ty e with
        | some ie => match ie.zero with
          | some z => if n * ie.size ≤ 16777216 then (cElems T ps.toList).map (.buildSlice e ie.size n (cellsOf z)) else none
          | none => none
        | none => none
      | _ => none
    | none => none
  | .insert t m k v | .mapUpdate t m k v => match T.ty t with
    | some i => match i.desc with
      | .map kt _ => match T.eq kt, cX T m, cX T k, cX T v with
        | some q, some m, some k, some v => some (.mapUpdate q m k v)
        | _, _, _, _ => none
      | _ => none
    | none => none
  | .load t a => match T.ty t, cX T a with
    | some i, some a => some (.load (aggN i) a)
    | _, _ => none
  | .store t a v => match T.ty t, cX T a, cX T v with
    | some i, some a, some v => some (.store i.size a v)
    | _, _, _ => none
  | .nilCheck x => (cX T x).map .nilCheck
  | .binOp op t X Y _ => match T.ty t, cX T X, cX T Y with
    | some i, some x, some y => match i.desc with
      | .int _ | .string => some (.bin op x y)
      | _ => match op, T.eq t with
        | .eql, some k => if k.ownB && (!k.ifaceB || isConst X || isConst Y) then some (.eq k false x y) else none
        | .neq, some k => if k.ownB && (!k.ifaceB || isConst X || isConst Y) then some (.eq k true x y) else none
        | _, _ => none
    | _, _, _ => none
  | .unOp op _ x => (cX T x).map (.un op)
  | .convert s d x => match cConv T s d, cX T x with
    | some k, some x => some (.cv k x)
    | _, _ => none
  | .makeInterface t x => match T.ty t, cX T x with
    | some i, some x => if isIface i.desc then none else some (.mkIface t x)
    | _, _ => none
  | .makeFunc (.func f) a c => match oMap (cX T) a.toList, oMap (cX T) c.toList with
    | some a, some c => some (.mkFunc f a c)
    | _, _ => none
  | .makeMap _ none => some .mkMap
  | .makeSlice t l c => match T.ty t with
    | some i => match i.desc with
      | .slice e => match T.ty e, cX T l, cX T c with
        | some ie, some l, some c => match ie.zero with
          | some z => if ie.size = 0 then none else some (.mkSlice e ie.size ie.bytes (cellsOf z) l c)
          | none => none
        | _, _, _ => none
      | _ => none
    | none => none
  | .slice t x lo hi mx => if mx.isSome && hi.isNone then none else match T.ty t, cX T x, cO T lo, cO T hi, cO T mx with
    | some i, some x, some lo, some hi, some mx => match i.desc with
      | .string => if mx.isSome then none else some (.slice .str x lo hi mx)
      | .slice e => match T.ty e with
        | some ie => some (.slice (.sl ie.size) x lo hi mx)
        | none => none
      | .array n e => match T.ty e with
        | some ie => some (.slice (.arr n ie.size) x lo hi mx)
        | none => none
      | _ => none
    | _, _, _, _, _ => none
  | .fieldAddr t x f => match T.ty t, cX T x with
    | some i, some x => match i.desc with
      | .struct fs => match fs[f]? with
        | some fd => match T.ty fd.type with
          | some j => if j.size = 0 then none else some (.fieldAddr fd.offset x)
          | none => none
        | none => none
      | _ => none
    | _, _ => none
  | .field t x f => match T.ty t, cX T x with
    | some i, some x => match i.desc with
      | .struct fs => match fs[f]? with
        | some fd => match T.ty fd.type with
          | some j => some (.field fd.offset (aggN j) x)
          | none => none
        | none => none
      | _ => none
    | _, _ => none
  | .indexAddr t x y => match T.ty t, cX T x, cX T y with
    | some i, some x, some y => match i.desc with
      | .array n e => match T.ty e with
        | some j => some (.indexAddr (some n) j.size x y)
        | none => none
      | .slice e => match T.ty e with
        | some j => some (.indexAddr none j.size x y)
        | none => none
      | _ => none
    | _, _, _ => none
  | .index t x y => match T.ty t, cX T x, cX T y with
    | some i, some x, some y => match i.desc with
      | .array n e => match T.ty e with
        | some j => some (.index (some (n, j.size, aggN j)) x y)
        | none => none
      | .string => some (.index none x y)
      | _ => none
    | _, _, _ => none
  | .lookup t x y ok => match T.ty t, cX T x, cX T y with
    | some i, some x, some y => match i.desc with
      | .map kt e => match T.eq kt, T.ty e with
        | some q, some j => j.zero.map fun z => .lookup q z ok x y
        | _, _ => none
      | _ => none
    | _, _, _ => none
  | .mapEntry t m k => match T.ty t, cX T m, cX T k with
    | some i, some m, some k => match i.desc with
      | .map kt e => match T.eq kt, T.ty e with
        | some q, some j => j.zero.map fun z => .mapEntry q z m k
        | _, _ => none
      | _ => none
    | _, _, _ => none
  | .entryStore _ m s v => match cX T m, cX T s, cX T v with
    | some m, some s, some v => some (.entryStore m s v)
    | _, _, _ => none
  | .range t x => match T.ty t, cX T x with
    | some i, some x => match i.desc with
      | .map _ _ => some (.range x)
      | _ => none
    | _, _ => none
  | .entry x => (cX T x).map .entry
  | .next x isString => if isString then none else (cX T x).map .next
  | .typeAssert x _ a ok => match T.ty a, cX T x with
    | some i, some x => if isIface i.desc then none else i.zero.map fun z => .typeAssert a z ok x
    | _, _ => none
  | .extract x i => (cX T x).map fun x => .extract x i
  | .panic x => (cX T x).map .panic
  | .defer c => match c.callee with
    | .value f => match cX T f, oMap (cX T) c.args.toList with
      | some f, some l => some (.defer f l)
      | _, _ => none
    | _ => none
  | .call c => match oMap (cX T) c.args.toList with
    | some args => match c.callee with
      | .value (.func f) => match T.ext f with
        | some e => some (.call (.ext e) args)
        | none => some (.call (.fn f) args)
      | .value x => (cX T x).map fun x => .call (.dyn x) args
      | .builtin b => cBuiltin T b c.argTypes.toList args
      | .invoke .. => none
    | none => none
  | _ => none
end Go.Eng
end
section
namespace Go.Eng
variable {P : Program} {cs : Nat → Option CSite} {φ : Phi} {h : H} {w : World} {T : Tab} {tm : Go.Eng.T} {ρ : Operand → Value}
structure TabOK (P : Program) (T : Tab) : Prop where
  ty : ∀ t i, T.ty t = some i → TyOK P t i
  eq : ∀ t k, T.eq t = some k → EqTy P t k
  uns : ∀ u e o sz, okUns e o sz (T.uns u) = true → liesAt P P.depth e (sz / P.cellsOf e) o u 1 = true
def GL (φ : Phi) (T : Tab) : Prop := ∀ g b, T.gl g = some b → ∃ cb, φ b = some cb ∧ cb.blk = g ∧ cb.off = 0
structure EvOK (φ : Phi) (T : Tab) (tm : Go.Eng.T) (ρ : Operand → Value) : Prop where
  tmp : ∀ i, VR φ (tm.get i) (ρ (.tmp i))
  const : ∀ v, ρ (.const v) = v
  global : ∀ g, ρ (.global g) = .pointer (some ⟨g, 0, none⟩)
  func : ∀ f, ρ (.func f) = .func (.func f) #[] #[]
  gl : GL φ T
theorem cV_ok : ∀ (n : Nat) {v : Value} {a : V}, cV n v = some a → VR φ a v
  | 0, v, a, h => by simp [cV] at h
  | n + 1, v, a, h => by
    have hl : ∀ {l : List Value} {r : List V}, oMap (cV n) l = some r → VRL φ r l := by
      intro l
      induction l with
      | nil => intro r h; simp only [oMap] at h; cases h; exact .nil
      | cons x l ih =>
        intro r h
        simp only [oMap] at h
        split at h
        · rename_i b r' h1 h2
          cases h
          exact .cons (cV_ok n h1) (ih h2)
        · cases h
    unfold cV at h
    split at h
    · cases h; exact .bool (view_bool _)
    · split at h
      · rename_i hle
        cases h
        exact .int (view_int _ _) (dI_eI hle)
      · cases h
    · cases h; exact .str (view_str _ _) rfl rfl
    · cases h; exact .nilp view_nilp
    · cases h; exact .nils view_nils
    · cases h; exact .nilm view_nilm
    · cases h; exact .nilf view_nilf
    · cases h; exact .nili view_nili
    · rename_i c
      cases hm : oMap (cV n) c.toList with
      | none => rw [hm] at h; cases h
      | some r => rw [hm] at h; cases h; exact .agg (view_agg _) (hl hm)
    · rename_i c
      cases hm : oMap (cV n) c.toList with
      | none => rw [hm] at h; cases h
      | some r => rw [hm] at h; cases h; exact .tup (view_tup _) (hl hm)
    · rename_i t x
      cases hm : cV n x with
      | none => rw [hm] at h; cases h
      | some r => rw [hm] at h; cases h; exact .iface (view_iface _ _) (cV_ok n hm)
    · rename_i f x y
      split at h
      · rename_i r s h1 h2
        cases h
        have := mkFunc_run (f := f) (hl h1) (hl h2)
        simpa using this
      · cases h
    · cases h
theorem cX_ok (he : EvOK φ T tm ρ) {x : Operand} {ix : IX} (hx : cX T x = some ix) : VR φ (ev tm ix) (ρ x) := by
  cases x with
  | tmp t => simp only [cX] at hx; cases hx; exact he.tmp t
  | const v =>
    simp only [cX] at hx
    cases hm : cV 20 v with
    | none => rw [hm] at hx; cases hx
    | some a => rw [hm] at hx; cases hx; rw [he.const]; exact cV_ok 20 hm
  | global g =>
    simp only [cX] at hx
    cases hm : T.gl g with
    | none => rw [hm] at hx; cases hx
    | some b =>
      rw [hm] at hx
      cases hx
      obtain ⟨cb, h1, h2, h3⟩ := he.gl g b hm
      rw [he.global]
      have := VR.ptr (φ := φ) (view_ptr b 0) h1
      rw [h2, h3] at this
      exact this
  | func f =>
    simp only [cX] at hx
    cases hx
    rw [he.func]
    exact mkFunc_run (f := f) (first := []) (cap := []) .nil .nil
theorem cXs_ok (he : EvOK φ T tm ρ) : ∀ {l : List Operand} {r : List IX}, oMap (cX T) l = some r → VRL φ (r.map (ev tm)) (l.map ρ)
  | [], r, h => by simp only [oMap] at h; cases h; exact .nil
  | x :: l, r, h => by
    simp only [oMap] at h
    split at h
    · rename_i b r' h1 h2
      cases h
      exact .cons (cX_ok he h1) (cXs_ok he h2)
    · cases h
theorem cO_ok (he : EvOK φ T tm ρ) {x : Option Operand} {ix : Option IX} (hx : cO T x = some ix) : VRO φ (ix.map (ev tm)) (x.map ρ) := by
  cases x with
  | none => simp only [cO] at hx; cases hx; exact .none
  | some x =>
    simp only [cO] at hx
    cases hm : cX T x with
    | none => rw [hm] at hx; cases hx
    | some y => rw [hm] at hx; cases hx; exact .some (cX_ok he hm)
theorem cO_some {x : Option Operand} {ix : Option IX} (hx : cO T x = some ix) : ix.isSome = x.isSome := by
  cases x with
  | none => simp only [cO] at hx; cases hx; rfl
  | some x =>
    simp only [cO] at hx
    cases hm : cX T x with
    | none => rw [hm] at hx; cases hx
    | some y => rw [hm] at hx; cases hx; rfl
def Runs (P : Program) (cs : Nat → Option CSite) (φ : Phi) (h : H) (w : World) (s : Sem Next) (v : V) (h' : H) : Prop :=
  ∃ nx c w', s.run P w = .ok nx w' ∧ (nx = .value c ∨ (nx = .skip ∧ c = undef)) ∧ Sim cs φ h w v h' c w'
theorem Runs.val {s : Sem Value} {v : V} {h' : H} (hs : ∃ c w', s.run P w = .ok c w' ∧ Sim cs φ h w v h' c w') : Runs P cs φ h w (do pure (.value (← s))) v h' := by
  obtain ⟨c, w', h1, h2⟩ := hs
  exact ⟨.value c, c, w', by simp [h1], .inl rfl, h2⟩
theorem Runs.same (hr : HR cs φ h w) {s : Sem Value} {v : V} {h' : H} (hs : h' = h ∧ ∃ c, s.run P w = .ok c w ∧ VR φ v c) : Runs P cs φ h w (do pure (.value (← s))) v h' := by
  obtain ⟨rfl, c, h1, h2⟩ := hs
  exact .val ⟨c, w, h1, φ, hr, .refl _ _ _, h2⟩
theorem Runs.val' {s : Sem Value} {v : V} {h' : H} (hs : ∃ c w', s.run P w = .ok c w' ∧ HR cs φ h' w' ∧ Ext φ h w φ h' w' ∧ VR φ v c) : Runs P cs φ h w (do pure (.value (← s))) v h' := by
  obtain ⟨c, w', h1, h2, h3, h4⟩ := hs
  exact .val ⟨c, w', h1, φ, h2, h3, h4⟩
theorem Runs.unit {s : Sem Unit} {v : V} {h' : H} (hs : v = vUnk ∧ ∃ w', s.run P w = .ok () w' ∧ HR cs φ h' w' ∧ Ext φ h w φ h' w') : Runs P cs φ h w (do s; pure .skip) v h' := by
  obtain ⟨rfl, w', h1, h2, h3⟩ := hs
  exact ⟨.skip, undef, w', by simp [h1], .inr ⟨rfl, rfl⟩, φ, h2, h3, .unk view_unk⟩
theorem Runs.now (hr : HR cs φ h w) {v : V} {c : Value} {h' : H} (hs : h' = h ∧ VR φ v c) : Runs P cs φ h w (pure (.value c)) v h' := by
  obtain ⟨rfl, h2⟩ := hs
  exact ⟨.value c, c, w, rfl, .inl rfl, φ, hr, .refl _ _ _, h2⟩
theorem flat_known {x : V} (hf : flat (cellsOf x) = true) : x.view ≠ .unk := by
  intro hk
  have := flat_Flat hf x (by simp [cellsOf, hk])
  simp [V.cell, hk] at this
theorem newA_flat {e : Nat} {b : Bool} {vs : List V} {k : Id → V} {v : V} {h' : H} (hn : newA h e b vs k = .val v h') : flat vs = true := by
  unfold newA at hn
  split at hn
  · rename_i hc; exact hc.2.2
  · cases hn
theorem known_ne {v : V} (hk : known v = true) : v.view ≠ .unk := by
  intro e
  unfold known at hk
  rw [e] at hk
  cases hk
theorem cParts_ok (he : EvOK φ T tm ρ) {pl : List (Nat × Nat)} : ∀ {l : List (Nat × Operand)} {r : List (Nat × Nat × IX)}, cParts T pl l = some r → (∀ p ∈ r, known (ev tm p.2.2) = true) →
    Parts φ (fun k => pl[k]?) (r.map fun (o, n, x) => (o, n, cellsOf (ev tm x))) (l.map fun (i, x) => (i, ρ x))
  | [], r, h, _ => by simp only [cParts] at h; cases h; exact .nil
  | (k, x) :: l, r, h, hk => by
    simp only [cParts] at h
    split at h
    · rename_i o n y r' h1 h2 h3
      cases h
      exact .cons h1 (cellsOf_run (cX_ok he h2) (known_ne (hk _ (List.mem_cons_self ..)))) (cParts_ok he h3 fun p hp => hk p (List.mem_cons_of_mem _ hp))
    · cases h
theorem cRow_ok (he : EvOK φ T tm ρ) {s : Nat} : ∀ {l : List (Nat × Operand)} {r : List (Nat × Nat × IX)}, cRow T s l = some r → (∀ p ∈ r, known (ev tm p.2.2) = true) →
    Parts φ (fun k => some (k * s, s)) (r.map fun (o, n, x) => (o, n, cellsOf (ev tm x))) (l.map fun (i, x) => (i, ρ x))
  | [], r, h, _ => by simp only [cRow] at h; cases h; exact .nil
  | (k, x) :: l, r, h, hk => by
    simp only [cRow] at h
    split at h
    · rename_i y r' h2 h3
      cases h
      exact .cons rfl (cellsOf_run (cX_ok he h2) (known_ne (hk _ (List.mem_cons_self ..)))) (cRow_ok he h3 fun p hp => hk p (List.mem_cons_of_mem _ hp))
    · cases h
theorem cElems_ok (he : EvOK φ T tm ρ) {s : Nat} : ∀ {l : List (Nat × Operand)} {r : List (Nat × IX)}, cElems T l = some r → (∀ p ∈ r, known (ev tm p.2) = true) →
    Parts φ (fun k => some (k * s, s)) (r.map fun (i, x) => (i * s, s, cellsOf (ev tm x))) (l.map fun (i, x) => (i, ρ x))
  | [], r, h, _ => by simp only [cElems] at h; cases h; exact .nil
  | (k, x) :: l, r, h, hk => by
    simp only [cElems] at h
    split at h
    · rename_i y r' h2 h3
      cases h
      exact .cons rfl (cellsOf_run (cX_ok he h2) (known_ne (hk _ (List.mem_cons_self ..)))) (cElems_ok he h3 fun p hp => hk p (List.mem_cons_of_mem _ hp))
    · cases h
theorem cFields_ok (ht : TabOK P T) : ∀ {l : List Field} {r : List (Nat × Nat)}, cFields T l = some r →
    l.length = r.length ∧ ∀ (k : Nat) (f : Field) (p : Nat × Nat), l[k]? = some f → r[k]? = some p → f.offset = p.1 ∧ ∃ i, TyOK P f.type i ∧ i.size = p.2
  | [], r, h => by simp only [cFields] at h; cases h; exact ⟨rfl, fun k f p h => by simp at h⟩
  | f :: l, r, h => by
    simp only [cFields] at h
    split at h
    · rename_i i r' h1 h2
      cases h
      obtain ⟨g1, g2⟩ := cFields_ok ht h2
      refine ⟨by simp [g1], fun k f' p hf hp => ?_⟩
      cases k with
      | zero => simp at hf hp; subst hf hp; exact ⟨rfl, i, ht.ty _ _ h1, rfl⟩
      | succ k => exact g2 k f' p (by simpa using hf) (by simpa using hp)
    · cases h
theorem isU8_ok (ht : TabOK P T) {e : Nat} (h : isU8 T e = true) : P.underlying e = some (.int .u8) := by
  unfold isU8 at h
  split at h
  · rename_i i hi
    split at h
    · rename_i hd
      rw [← hd]
      exact (ht.ty _ _ hi).desc
    · cases h
  · cases h
theorem cLen_ok (ht : TabOK P T) {t : Nat} {k : LenK} (h : cLen T t = some k) : ∃ d, P.underlying t = some d ∧ lenDesc P k d := by
  unfold cLen at h
  split at h
  · rename_i i hi
    have hd := (ht.ty _ _ hi).desc
    split at h
    · rename_i e; cases h; exact ⟨_, hd, e⟩
    · rename_i n e' e; cases h; exact ⟨_, hd, .inl ⟨_, e⟩⟩
    · rename_i a e
      split at h
      · rename_i j hj
        split at h
        · rename_i n e' e2
          cases h
          refine ⟨_, hd, .inr ⟨a, e', e, ?_⟩⟩
          rw [← e2]
          exact (ht.ty _ _ hj).desc
        · cases h
      · cases h
    · rename_i e' e; cases h; exact ⟨_, hd, _, e⟩
    · rename_i a b e; cases h; exact ⟨_, hd, _, _, e⟩
    · cases h
  · cases h
end Go.Eng
end
section
namespace Go.Eng
variable {P : Program} {cs : Nat → Option CSite} {φ : Phi} {h : H} {w : World} {T : Tab} {tm : Go.Eng.T} {ρ : Operand → Value} {o : Oper} {iop : IOp} {v : V} {h' : H}
theorem ok_mv (hr : HR cs φ h w) (he : EvOK φ T tm ρ) {x : Operand} (ho : o.op = .move x ∨ o.op = .assign x) (hc : (cX T x).map IOp.mv = some iop) (hb : opA tm h iop = .val v h') :
    Runs P cs φ h w (execOp ρ o) v h' := by
  cases hx : cX T x with
  | none => rw [hx] at hc; cases hc
  | some ix =>
    rw [hx] at hc
    cases hc
    simp only [opA] at hb
    cases hb
    have hv := cX_ok he hx
    rcases ho with ho | ho <;> · simp only [execOp, ho]; exact .now hr ⟨rfl, hv⟩
theorem ok_pick (hr : HR cs φ h w) (he : EvOK φ T tm ρ) {x y z : Operand} (ho : o.op = .pick x y z) (hc : cOp T o.op = some iop) (hb : opA tm h iop = .val v h') :
    Runs P cs φ h w (execOp ρ o) v h' := by
  rw [ho] at hc
  simp only [cOp] at hc
  split at hc
  · rename_i X Y Z h1 h2 h3
    cases hc
    simp only [opA] at hb
    split at hb
    · rename_i t hw
      cases hb
      have e := (cX_ok he h1).bool_inv hw
      simp only [execOp, ho, e]
      refine ⟨.value (if t then ρ y else ρ z), _, w, ?_, .inl rfl, φ, hr, .refl _ _ _, ?_⟩
      · simp [asBool]
      · cases t
        · exact cX_ok he h3
        · exact cX_ok he h2
    · cases hb
  · cases hc
theorem ok_alloc (hr : HR cs φ h w) (ht : TabOK P T) {t : TypeId} (ho : o.op = .alloc t) (hc : cOp T o.op = some iop) (hb : opA tm h iop = .val v h') :
    Runs P cs φ h w (execOp ρ o) v h' := by
  rw [ho] at hc
  simp only [cOp] at hc
  split at hc
  · rename_i i hi
    cases hz : i.zero with
    | none => rw [hz] at hc; cases hc
    | some z =>
      rw [hz] at hc
      cases hc
      simp only [opA] at hb
      simp only [execOp, ho]
      exact .val (alloc_run hr (ht.ty _ _ hi) hz hb true)
  · cases hc
theorem ok_box (hr : HR cs φ h w) (he : EvOK φ T tm ρ) {t : TypeId} {x : Operand} (ho : o.op = .box t x) (hc : cOp T o.op = some iop) (hb : opA tm h iop = .val v h') :
    Runs P cs φ h w (execOp ρ o) v h' := by
  rw [ho] at hc
  simp only [cOp] at hc
  split at hc
  · rename_i X hx
    cases hc
    simp only [opA] at hb
    simp only [execOp, ho]
    exact .val (box_run hr (cX_ok he hx) (flat_known (newA_flat hb)) hb)
  · cases hc
theorem ok_build (hr : HR cs φ h w) (ht : TabOK P T) (he : EvOK φ T tm ρ) {t : TypeId} {ps : Array (Nat × Operand)} (ho : o.op = .build t ps) (hc : cOp T o.op = some iop) (hb : opA tm h iop = .val v h') :
    Runs P cs φ h w (execOp ρ o) v h' := by
  rw [ho] at hc
  simp only [cOp] at hc
  have hq : ∀ (qs : List (Nat × Value)), (ps.toList.map fun (i, x) => (i, ρ x)) = qs → (ps.map fun (i, x) => (i, ρ x)) = qs.toArray := by
    intro qs hqs
    apply Array.ext'
    rw [Array.toList_map]
    exact hqs
  split at hc
  · rename_i i hi
    split at hc
    · rename_i z fs hz hd
      split at hc
      · rename_i pl hpl
        cases hp : cParts T pl ps.toList with
        | none => rw [hp] at hc; cases hc
        | some r =>
          rw [hp] at hc
          cases hc
          simp only [opA] at hb
          split at hb
          · rename_i hk
            split at hb
            · rename_i l hl
              cases hb
              have hp2 := cParts_ok he hp (fun p hp => List.all_eq_true.1 hk p hp)
              obtain ⟨c, h1, h2⟩ := build_struct_run (P := P) (w := w) (ht.ty _ _ hi) hd hz (pl := pl) ⟨by rw [← Array.length_toList]; exact (cFields_ok ht hpl).1, fun k f p hf hp => (cFields_ok ht hpl).2 k f p (by simpa using hf) hp⟩ hp2 hl
              simp only [execOp, ho, hq _ rfl]
              exact .same hr ⟨rfl, c, h1, h2⟩
            · cases hb
          · cases hb
      · cases hc
    · rename_i z n e hz hd
      split at hc
      · rename_i ie hie
        cases hp : cRow T ie.size ps.toList with
        | none => rw [hp] at hc; cases hc
        | some r =>
          rw [hp] at hc
          cases hc
          simp only [opA] at hb
          split at hb
          · rename_i hk
            split at hb
            · rename_i l hl
              cases hb
              have hp2 := cRow_ok he hp (fun p hp => List.all_eq_true.1 hk p hp)
              obtain ⟨c, h1, h2⟩ := build_arr_run (P := P) (w := w) (ht.ty _ _ hi) hd (ht.ty _ _ hie) hz hp2 hl
              simp only [execOp, ho, hq _ rfl]
              exact .same hr ⟨rfl, c, h1, h2⟩
            · cases hb
          · cases hb
      · cases hc
    · cases hc
  · cases hc
theorem ok_buildSlice (hr : HR cs φ h w) (ht : TabOK P T) (he : EvOK φ T tm ρ) {t : TypeId} {n : Nat} {ps : Array (Nat × Operand)} (ho : o.op = .buildSlice t n ps) (hc : cOp T o.op = some iop) (hb : opA tm h iop = .val v h') :
    Runs P cs φ h w (execOp ρ o) v h' := by
  rw [ho] at hc
  simp only [cOp] at hc
  have hq : ∀ (qs : List (Nat × Value)), (ps.toList.map fun (i, x) => (i, ρ x)) = qs → (ps.map fun (i, x) => (i, ρ x)) = qs.toArray := by
    intro qs hqs
    apply Array.ext'
    rw [Array.toList_map]
    exact hqs
  split at hc
  · rename_i i hi
    split at hc
    · rename_i e hd
      split at hc
      · rename_i ie hie
        split at hc
        · rename_i z hz
          split at hc
          · rename_i hle
            cases hp : cElems T ps.toList with
            | none => rw [hp] at hc; cases hc
            | some r =>
              rw [hp] at hc
              cases hc
              simp only [opA] at hb
              split at hb
              · rename_i hk
                split at hb
                · rename_i l hl
                  split at hb
                  · rename_i hll
                    have hp2 := cElems_ok (s := ie.size) he hp (fun p hp => List.all_eq_true.1 hk p hp)
                    simp only [execOp, ho, hq _ rfl]
                    exact .val (buildSlice_run hr (by rw [← hd]; exact (ht.ty _ _ hi).desc) (ht.ty _ _ hie) hz hle hp2 hl hll hb)
                  · cases hb
                · cases hb
              · cases hb
          · cases hc
        · cases hc
      · cases hc
    · cases hc
  · cases hc
theorem ok_mapUpdate (hr : HR cs φ h w) (ht : TabOK P T) (he : EvOK φ T tm ρ) {t : TypeId} {x y z : Operand} (ho : o.op = .mapUpdate t x y z ∨ o.op = .insert t x y z) (hc : cOp T (.mapUpdate t x y z) = some iop) (hb : opA tm h iop = .val v h') :
    Runs P cs φ h w (execOp ρ o) v h' := by
  simp only [cOp] at hc
  split at hc
  · rename_i i hi
    split at hc
    · rename_i kt et hd
      split at hc
      · rename_i q X Y Z h0 h1 h2 h3
        cases hc
        have := mapUpdate_run (P := P) hr (t := t) (kt := kt) (et := et) (by rw [← hd]; exact (ht.ty _ _ hi).desc) (ht.eq _ _ h0) (cX_ok he h1) (cX_ok he h2) (cX_ok he h3) rfl rfl rfl hb
        rcases ho with ho | ho <;> · simp only [execOp, ho]; exact .unit this
      · cases hc
    · cases hc
  · cases hc
theorem ok_load (hr : HR cs φ h w) (ht : TabOK P T) (he : EvOK φ T tm ρ) {t : TypeId} {x : Operand} (ho : o.op = .load t x) (hc : cOp T o.op = some iop) (hb : opA tm h iop = .val v h') :
    Runs P cs φ h w (execOp ρ o) v h' := by
  rw [ho] at hc
  simp only [cOp] at hc
  split at hc
  · rename_i i X hi hx
    cases hc
    simp only [opA] at hb
    simp only [execOp, ho]
    exact .same hr (load_run hr (ht.ty _ _ hi) (cX_ok he hx) hb)
  · cases hc
theorem ok_store (hr : HR cs φ h w) (ht : TabOK P T) (he : EvOK φ T tm ρ) {t : TypeId} {x y : Operand} (ho : o.op = .store t x y) (hc : cOp T o.op = some iop) (hb : opA tm h iop = .val v h') :
    Runs P cs φ h w (execOp ρ o) v h' := by
  rw [ho] at hc
  simp only [cOp] at hc
  split at hc
  · rename_i i X Y hi hx hy
    cases hc
    simp only [opA] at hb
    split at hb
    · rename_i b p hview
      split at hb
      · rename_i hlen
        split at hb
        · rename_i h2 hs
          cases hb
          simp only [execOp, ho]
          exact .unit ⟨rfl, store_run hr (ht.ty _ _ hi) (cX_ok he hx) (cX_ok he hy) hview hlen hs⟩
        · cases hb
      · cases hb
    · cases hb
  · cases hc
theorem ok_bin (hr : HR cs φ h w) (ht : TabOK P T) (he : EvOK φ T tm ρ) {op : BinOp} {t : TypeId} {x y : Operand} {yt : TypeId} (ho : o.op = .binOp op t x y yt) (hc : cOp T o.op = some iop) (hb : opA tm h iop = .val v h') :
    Runs P cs φ h w (execOp ρ o) v h' := by
  rw [ho] at hc
  simp only [cOp] at hc
  split at hc
  · rename_i i X Y hi hx hy
    have hvx := cX_ok he hx
    have hvy := cX_ok he hy
    have hplain : ∀ {X Y : IX}, VR φ (ev tm X) (ρ x) → VR φ (ev tm Y) (ρ y) → opA tm h (.bin op X Y) = .val v h' → Runs P cs φ h w (execOp ρ o) v h' := by
      intro X Y hvx hvy hb
      simp only [opA] at hb
      split at hb
      · rename_i v' hv
        cases hb
        obtain ⟨r, h1, h2⟩ := bin_run (P := P) (w := w) t hvx hvy hv
        simp only [execOp, ho]
        refine .same hr ⟨rfl, r, ?_, h2⟩
        have hg : (eqGuard op t x y (ρ x) (ρ y)).run P w = .ok () w := by
          have hv2 := hv
          unfold binA at hv2
          split at hv2
          · rename_i k a k' b' e1 e2
            obtain ⟨κ, n, _, _, q1⟩ := hvx.int_inv e1
            obtain ⟨κ', n', _, _, q2⟩ := hvy.int_inv e2
            rw [q1, q2]
            cases op <;> rfl
          · rename_i l s m s' e1 e2
            obtain ⟨st, q1, _⟩ := hvx.str_inv e1
            obtain ⟨st', q2, _⟩ := hvy.str_inv e2
            rw [q1, q2]
            cases op <;> rfl
          · cases hv2
        simp only [Sem.run_bind, hg, Result.andThen, h1]
      · cases hb
    have heq : ∀ {k : EqK} {neg : Bool}, T.eq t = some k → op = (if neg then .neq else .eql) → (k.ownB && (!k.ifaceB || isConst x || isConst y)) = true → opA tm h (.eq k neg X Y) = .val v h' → Runs P cs φ h w (execOp ρ o) v h' := by
      intro k neg hk hop hcond hb
      simp only [opA] at hb
      split at hb
      · rename_i b hbq
        cases hb
        rw [Bool.and_eq_true] at hcond
        have := eq_run (P := P) (w := w) (ht.eq _ _ hk) hcond.1 neg x y hvx hvy hbq (fun e => by
          have h2 := hcond.2
          rw [e] at h2
          simpa [EqK.ifaceB] using h2)
        simp only [execOp, ho]
        refine .same hr ⟨rfl, .bool (b != neg), ?_, .bool (view_bool _)⟩
        rw [hop]
        exact this
      · cases hb
    split at hc
    · cases hc; exact hplain hvx hvy hb
    · cases hc; exact hplain hvx hvy hb
    · split at hc
      · rename_i k hk
        split at hc
        · rename_i hcond
          cases hc
          exact heq (neg := false) hk rfl hcond hb
        · cases hc
      · rename_i k hk
        split at hc
        · rename_i hcond
          cases hc
          exact heq (neg := true) hk rfl hcond hb
        · cases hc
      · cases hc
  · cases hc
theorem ok_un (hr : HR cs φ h w) (he : EvOK φ T tm ρ) {op : UnOp} {t : TypeId} {x : Operand} (ho : o.op = .unOp op t x) (hc : cOp T o.op = some iop) (hb : opA tm h iop = .val v h') :
    Runs P cs φ h w (execOp ρ o) v h' := by
  rw [ho] at hc
  simp only [cOp] at hc
  cases hx : cX T x with
  | none => rw [hx] at hc; cases hc
  | some X =>
    rw [hx] at hc
    cases hc
    simp only [opA] at hb
    simp only [execOp, ho]
    exact .same hr (un_run (P := P) (cX_ok he hx) hb)
end Go.Eng
end
section
namespace Go.Eng
variable {P : Program} {cs : Nat → Option CSite} {φ : Phi} {h : H} {w : World} {T : Tab} {tm : Go.Eng.T} {ρ : Operand → Value} {o : Oper} {iop : IOp} {v : V} {h' : H}
theorem ok_convert (hr : HR cs φ h w) (ht : TabOK P T) (he : EvOK φ T tm ρ) {s d : TypeId} {x : Operand} (ho : o.op = .convert s d x) (hc : cOp T o.op = some iop) (hb : opA tm h iop = .val v h') :
    Runs P cs φ h w (execOp ρ o) v h' := by
  rw [ho] at hc
  simp only [cOp] at hc
  split at hc
  · rename_i k X hk hx
    cases hc
    have hv := cX_ok he hx
    simp only [execOp, ho]
    unfold cConv at hk
    split at hk
    · rename_i a b ha hb'
      have da := (ht.ty _ _ ha).desc
      have db := (ht.ty _ _ hb').desc
      split at hk
      · rename_i k1 k2 e1 e2
        cases hk
        rw [e1] at da
        rw [e2] at db
        simp only [opA] at hb
        split at hb <;> first | (rename_i e3 _; cases e3; done) | (rename_i e3; cases e3; done) | skip
        · rename_i k3 j a3 e3 e4
          cases e3
          cases hb
          rw [kOf_kTo]
          obtain ⟨r, h1, h2⟩ := conv_int (P := P) (w := w) da db hv e4
          exact .same hr ⟨rfl, r, h1, h2⟩
        · cases hb
      · rename_i e1 e2
        cases hk
        rw [e1] at da
        rw [e2] at db
        simp only [opA] at hb
        split at hb <;> first | (rename_i e3 _; cases e3; done) | (rename_i e3; cases e3; done) | skip
        · rename_i l s e3
          cases hb
          exact .same hr ⟨rfl, _, conv_same da db hv e3, hv⟩
        · cases hb
      · rename_i e e1 e2
        split at hk
        · rename_i hu
          cases hk
          rw [e1] at da
          rw [e2] at db
          refine .same hr (conv_tostr (P := P) hr da (isU8_ok ht hu) db hv (by
            simp only [opA] at hb
            revert hb
            cases (ev tm X).view <;> exact fun hb => hb))
        · cases hk
      · rename_i e e1 e2
        split at hk
        · rename_i hu
          cases hk
          rw [e1] at da
          rw [e2] at db
          simp only [opA] at hb
          split at hb <;> first | (rename_i e3 _; cases e3; done) | (rename_i e3; cases e3; done) | skip
          · rename_i e3 l s e4 e5
            cases e4
            exact .val (conv_bytes hr da db (isU8_ok ht hu) hv e5 hb)
          · cases hb
        · cases hk
      · rename_i e e' e1 e2
        split at hk
        · rename_i hu
          rw [Bool.and_eq_true] at hu
          cases hk
          rw [e1] at da
          have hsd : s = d := by simpa using hu.2
          subst hsd
          simp only [opA] at hb
          split at hb <;> first | (rename_i e3 _; cases e3; done) | (rename_i e3; cases e3; done) | skip
          · rename_i b o' len cap es ex e5
            exact .val (conv_mark hr da (isU8_ok ht hu.1) hv e5 hb)
          · cases hb
        · cases hk
      · rename_i t e1 e2
        split at hk
        · rename_i i hi
          split at hk
          · cases hk
          · rename_i hz
            cases hk
            rw [e1] at da
            rw [e2] at db
            simp only [opA] at hb
            split at hb <;> first | (rename_i e3 _; cases e3; done) | (rename_i e3; cases e3; done) | skip
            · rename_i b p e5
              obtain ⟨g1, g2, g3⟩ := conv_toUns (P := P) hr da db (ht.ty _ _ hi) hz hv e5 hb
              exact .same hr ⟨g1, _, g2, by rw [g3]; exact hv⟩
            · cases hb
        · cases hk
      · rename_i u e1 e2
        split at hk
        · rename_i i hi
          cases hk
          rw [e1] at da
          rw [e2] at db
          simp only [opA] at hb
          split at hb <;> first | (rename_i e3 _; cases e3; done) | (rename_i e3; cases e3; done) | skip
          · rename_i l b p e4 e5
            cases e4
            obtain ⟨g1, g2, g3⟩ := conv_ofUns (P := P) hr da db (ht.uns u) hv e5 hb (ht.ty _ _ hi)
            exact .same hr ⟨g1, _, g2, by rw [g3]; exact hv⟩
          · cases hb
        · cases hk
      · cases hk
    · cases hk
  · cases hc
theorem not_iface {i : TyI} (hi : ¬ isIface i.desc = true) : ∀ m, i.desc ≠ .interface m := fun m e => hi (by rw [e]; rfl)
theorem ok_mkIface (hr : HR cs φ h w) (ht : TabOK P T) (he : EvOK φ T tm ρ) {t : TypeId} {x : Operand} (ho : o.op = .makeInterface t x) (hc : cOp T o.op = some iop) (hb : opA tm h iop = .val v h') :
    Runs P cs φ h w (execOp ρ o) v h' := by
  rw [ho] at hc
  simp only [cOp] at hc
  split at hc
  · rename_i i X hi hx
    split at hc
    · cases hc
    · rename_i hni
      cases hc
      simp only [opA] at hb
      cases hb
      simp only [execOp, ho]
      exact .same hr ⟨rfl, _, mkIface_run (ht.ty _ _ hi) (not_iface hni) _, .iface (view_iface _ _) (cX_ok he hx)⟩
  · cases hc
theorem ok_mkFunc (hr : HR cs φ h w) (he : EvOK φ T tm ρ) {f : FuncId} {a c : Array Operand} (ho : o.op = .makeFunc (.func f) a c) (hc : cOp T o.op = some iop) (hb : opA tm h iop = .val v h') :
    Runs P cs φ h w (execOp ρ o) v h' := by
  rw [ho] at hc
  simp only [cOp] at hc
  split at hc
  · rename_i A C h1 h2
    cases hc
    simp only [opA] at hb
    cases hb
    simp only [execOp, ho]
    have hv := mkFunc_run (f := f) (cXs_ok he h1) (cXs_ok he h2)
    rw [List.length_map] at hv
    rw [List.map_append]
    refine .same hr ⟨rfl, .func (.func f) (a.map ρ) (c.map ρ), rfl, ?_⟩
    have e1 : (a.toList.map ρ).toArray = a.map ρ := by apply Array.ext'; simp
    have e2 : (c.toList.map ρ).toArray = c.map ρ := by apply Array.ext'; simp
    rw [e1, e2] at hv
    exact hv
  · cases hc
theorem ok_mkMap (hr : HR cs φ h w) {t : TypeId} (ho : o.op = .makeMap t none) (hc : cOp T o.op = some iop) (hb : opA tm h iop = .val v h') :
    Runs P cs φ h w (execOp ρ o) v h' := by
  rw [ho] at hc
  simp only [cOp] at hc
  cases hc
  simp only [execOp, ho]
  exact .val (mkMap_run hr t hb)
theorem ok_mkSlice (hr : HR cs φ h w) (ht : TabOK P T) (he : EvOK φ T tm ρ) {t : TypeId} {x y : Operand} (ho : o.op = .makeSlice t x y) (hc : cOp T o.op = some iop) (hb : opA tm h iop = .val v h') :
    Runs P cs φ h w (execOp ρ o) v h' := by
  rw [ho] at hc
  simp only [cOp] at hc
  split at hc
  · rename_i i hi
    split at hc
    · rename_i e hd
      split at hc
      · rename_i ie X Y hie hx hy
        split at hc
        · rename_i z hz
          split at hc
          · cases hc
          · rename_i hnz
            cases hc
            simp only [opA] at hb
            split at hb
            · rename_i l c hl hcc
              split at hb
              · rename_i hcond
                obtain ⟨c1, c2, c3, c4⟩ := hcond
                simp only [execOp, ho]
                refine .val (makeSlice_run hr (by rw [← hd]; exact (ht.ty _ _ hi).desc) (ht.ty _ _ hie) hz (cX_ok he hx) (cX_ok he hy) hl hcc c1 c2 c4 c3 ?_ hb)
                have : c ≤ c * ie.size := Nat.le_mul_of_pos_right _ (Nat.pos_of_ne_zero hnz)
                omega
              · cases hb
            · cases hb
        · cases hc
      · cases hc
    · cases hc
  · cases hc
theorem ok_slice (hr : HR cs φ h w) (ht : TabOK P T) (he : EvOK φ T tm ρ) {t : TypeId} {x : Operand} {lo hi mx : Option Operand} (ho : o.op = .slice t x lo hi mx) (hc : cOp T o.op = some iop) (hb : opA tm h iop = .val v h') :
    Runs P cs φ h w (execOp ρ o) v h' := by
  rw [ho] at hc
  simp only [cOp] at hc
  split at hc
  · cases hc
  · rename_i hmh
    split at hc
    · rename_i i X lo' hi' mx' hti hx h1 h2 h3
      have hlo := cO_ok he h1
      have hhi := cO_ok he h2
      have hmx := cO_ok he h3
      have hv := cX_ok he hx
      have hcond : (mx'.map (ev tm)) ≠ none → (hi'.map (ev tm)) ≠ none := by
        intro a b
        have e1 := cO_some h2
        have e2 := cO_some h3
        apply hmh
        cases hi' with
        | some _ => simp at b
        | none =>
          cases hi with
          | some _ => simp at e1
          | none =>
            cases mx' with
            | none => simp at a
            | some _ => simp at e2; simp [e2]
      have hd := (ht.ty _ _ hti).desc
      simp only [execOp, ho]
      split at hc
      · rename_i e
        split at hc
        · cases hc
        · rename_i hnm
          cases hc
          simp only [opA] at hb
          have : mx = none := by
            cases mx with
            | none => rfl
            | some _ => exact absurd (cO_some h3) hnm
          subst this
          simp only [cO] at h3
          cases h3
          rw [e] at hd
          exact .same hr (slice_str_run (P := P) hd hv hlo hhi hb)
      · rename_i e' e
        split at hc
        · rename_i ie hie
          cases hc
          simp only [opA] at hb
          rw [e] at hd
          exact .same hr (slice_sl_run (P := P) hd (ht.ty _ _ hie) hv hlo hhi hmx hcond hb)
        · cases hc
      · rename_i n e' e
        split at hc
        · rename_i ie hie
          cases hc
          simp only [opA] at hb
          rw [e] at hd
          exact .same hr (slice_arr_run (P := P) hr hd (ht.ty _ _ hie) hv hlo hhi hmx hcond hb)
        · cases hc
      · cases hc
    · cases hc
theorem ok_fieldAddr (hr : HR cs φ h w) (ht : TabOK P T) (he : EvOK φ T tm ρ) {t : TypeId} {x : Operand} {f : Nat} (ho : o.op = .fieldAddr t x f) (hc : cOp T o.op = some iop) (hb : opA tm h iop = .val v h') :
    Runs P cs φ h w (execOp ρ o) v h' := by
  rw [ho] at hc
  simp only [cOp] at hc
  split at hc
  · rename_i i X hi hx
    split at hc
    · rename_i fs hd
      split at hc
      · rename_i fd hf
        split at hc
        · rename_i j hj
          split at hc
          · cases hc
          · rename_i hnz
            cases hc
            simp only [opA] at hb
            split at hb
            · rename_i b p hw
              cases hb
              simp only [execOp, ho]
              exact .same hr ⟨rfl, fieldAddr_run (P := P) (by rw [← hd]; exact (ht.ty _ _ hi).desc) hf (ht.ty _ _ hj) hnz (cX_ok he hx) hw⟩
            · cases hb
        · cases hc
      · cases hc
    · cases hc
  · cases hc
theorem ok_field (hr : HR cs φ h w) (ht : TabOK P T) (he : EvOK φ T tm ρ) {t : TypeId} {x : Operand} {f : Nat} (ho : o.op = .field t x f) (hc : cOp T o.op = some iop) (hb : opA tm h iop = .val v h') :
    Runs P cs φ h w (execOp ρ o) v h' := by
  rw [ho] at hc
  simp only [cOp] at hc
  split at hc
  · rename_i i X hi hx
    split at hc
    · rename_i fs hd
      split at hc
      · rename_i fd hf
        split at hc
        · rename_i j hj
          cases hc
          simp only [execOp, ho]
          exact .same hr (field_run (P := P) (ht.ty _ _ hi) hd hf (ht.ty _ _ hj) (cX_ok he hx) hb rfl)
        · cases hc
      · cases hc
    · cases hc
  · cases hc
theorem ok_indexAddr (hr : HR cs φ h w) (ht : TabOK P T) (he : EvOK φ T tm ρ) {t : TypeId} {x y : Operand} (ho : o.op = .indexAddr t x y) (hc : cOp T o.op = some iop) (hb : opA tm h iop = .val v h') :
    Runs P cs φ h w (execOp ρ o) v h' := by
  rw [ho] at hc
  simp only [cOp] at hc
  split at hc
  · rename_i i X Y hi hx hy
    have hd := (ht.ty _ _ hi).desc
    have hvx := cX_ok he hx
    have hvy := cX_ok he hy
    split at hc
    · rename_i n e e1
      rw [e1] at hd
      split at hc
      · rename_i j hj
        cases hc
        simp only [execOp, ho]
        simp only [opA] at hb
        cases hn : natOf (ev tm Y) with
        | none => rw [hn] at hb; cases hb
        | some k =>
          rw [hn] at hb
          simp only at hb
          cases hw : (ev tm X).view <;> rw [hw] at hb <;> simp only at hb <;> first | (cases hb; done) | skip
          split at hb
          · rename_i hlt
            cases hb
            exact .same hr ⟨rfl, indexAddr_arr_run (P := P) hd (ht.ty _ _ hj) hvx hvy hw hn hlt⟩
          · cases hb
      · cases hc
    · rename_i e e1
      rw [e1] at hd
      split at hc
      · rename_i j hj
        cases hc
        simp only [execOp, ho]
        simp only [opA] at hb
        cases hn : natOf (ev tm Y) with
        | none => rw [hn] at hb; cases hb
        | some k =>
          rw [hn] at hb
          simp only at hb
          cases hw : (ev tm X).view <;> rw [hw] at hb <;> simp only at hb <;> first | (cases hb; done) | skip
          split at hb
          · rename_i hlt
            cases hb
            exact .same hr ⟨rfl, indexAddr_sl_run (P := P) hd (ht.ty _ _ hj) hvx hvy hw hn hlt⟩
          · cases hb
      · cases hc
    · cases hc
  · cases hc
theorem ok_index (hr : HR cs φ h w) (ht : TabOK P T) (he : EvOK φ T tm ρ) {t : TypeId} {x y : Operand} (ho : o.op = .index t x y) (hc : cOp T o.op = some iop) (hb : opA tm h iop = .val v h') :
    Runs P cs φ h w (execOp ρ o) v h' := by
  rw [ho] at hc
  simp only [cOp] at hc
  split at hc
  · rename_i i X Y hi hx hy
    have hvx := cX_ok he hx
    have hvy := cX_ok he hy
    split at hc
    · rename_i n e e1
      split at hc
      · rename_i j hj
        cases hc
        simp only [execOp, ho]
        simp only [opA] at hb
        cases hn : natOf (ev tm Y) with
        | none => rw [hn] at hb; cases hb
        | some k =>
          rw [hn] at hb
          simp only at hb
          cases hw : (ev tm X).view <;> rw [hw] at hb <;> simp only at hb <;> first | (cases hb; done) | skip
          split at hb
          · rename_i hlt
            exact .same hr (index_arr_run (P := P) (ht.ty _ _ hi) e1 (ht.ty _ _ hj) hvx hvy hn hw hlt hb)
          · cases hb
      · cases hc
    · rename_i e1
      cases hc
      simp only [execOp, ho]
      simp only [opA] at hb
      cases hn : natOf (ev tm Y) with
      | none => rw [hn] at hb; cases hb
      | some k =>
        rw [hn] at hb
        simp only at hb
        cases hw : (ev tm X).view <;> rw [hw] at hb <;> simp only at hb <;> first | (cases hb; done) | skip
        split at hb
        · rename_i hlt
          cases hb
          exact .same hr ⟨rfl, index_str_run (P := P) (ht.ty _ _ hi) e1 hvx hvy hn hw hlt⟩
        · cases hb
    · cases hc
  · cases hc
theorem ok_lookup (hr : HR cs φ h w) (ht : TabOK P T) (he : EvOK φ T tm ρ) {t : TypeId} {x y : Operand} {ok : Bool} (ho : o.op = .lookup t x y ok) (hc : cOp T o.op = some iop) (hb : opA tm h iop = .val v h') :
    Runs P cs φ h w (execOp ρ o) v h' := by
  rw [ho] at hc
  simp only [cOp] at hc
  split at hc
  · rename_i i X Y hi hx hy
    split at hc
    · rename_i kt e e1
      split at hc
      · rename_i q j hq hj
        cases hz : j.zero with
        | none => rw [hz] at hc; cases hc
        | some z =>
          rw [hz] at hc
          cases hc
          simp only [execOp, ho]
          exact .same hr (lookup_run hr (P := P) (t := t) (kt := kt) (et := e) ⟨by rw [← e1]; exact (ht.ty _ _ hi).desc, ht.eq _ _ hq, ht.ty _ _ hj⟩ hz ok (cX_ok he hx) (cX_ok he hy) rfl rfl hb)
      · cases hc
    · cases hc
  · cases hc
theorem ok_mapEntry (hr : HR cs φ h w) (ht : TabOK P T) (he : EvOK φ T tm ρ) {t : TypeId} {x y : Operand} (ho : o.op = .mapEntry t x y) (hc : cOp T o.op = some iop) (hb : opA tm h iop = .val v h') :
    Runs P cs φ h w (execOp ρ o) v h' := by
  rw [ho] at hc
  simp only [cOp] at hc
  split at hc
  · rename_i i X Y hi hx hy
    split at hc
    · rename_i kt e e1
      split at hc
      · rename_i q j hq hj
        cases hz : j.zero with
        | none => rw [hz] at hc; cases hc
        | some z =>
          rw [hz] at hc
          cases hc
          simp only [execOp, ho]
          exact .val' (mapEntry_run hr (P := P) (t := t) (kt := kt) (et := e) ⟨by rw [← e1]; exact (ht.ty _ _ hi).desc, ht.eq _ _ hq, ht.ty _ _ hj⟩ hz (cX_ok he hx) (cX_ok he hy) rfl rfl hb)
      · cases hc
    · cases hc
  · cases hc
theorem ok_entryStore (hr : HR cs φ h w) (he : EvOK φ T tm ρ) {t : TypeId} {x y z : Operand} (ho : o.op = .entryStore t x y z) (hc : cOp T o.op = some iop) (hb : opA tm h iop = .val v h') :
    Runs P cs φ h w (execOp ρ o) v h' := by
  rw [ho] at hc
  simp only [cOp] at hc
  split at hc
  · rename_i X Y Z hx hy hz
    cases hc
    simp only [execOp, ho]
    exact .unit (entryStore_run hr t (cX_ok he hx) (cX_ok he hy) (cX_ok he hz) rfl rfl rfl hb)
  · cases hc
theorem ok_typeAssert (hr : HR cs φ h w) (ht : TabOK P T) (he : EvOK φ T tm ρ) {x : Operand} {xt t : TypeId} {ok : Bool} (ho : o.op = .typeAssert x xt t ok) (hc : cOp T o.op = some iop) (hb : opA tm h iop = .val v h') :
    Runs P cs φ h w (execOp ρ o) v h' := by
  rw [ho] at hc
  simp only [cOp] at hc
  split at hc
  · rename_i i X hi hx
    split at hc
    · cases hc
    · rename_i hni
      cases hz : i.zero with
      | none => rw [hz] at hc; cases hc
      | some z =>
        rw [hz] at hc
        cases hc
        simp only [opA] at hb
        simp only [execOp, ho]
        exact .same hr (typeAssert_run (P := P) (cX_ok he hx) (ht.ty _ _ hi) (not_iface hni) ok (fun _ => hz) hb)
  · cases hc
theorem ok_extract (hr : HR cs φ h w) (he : EvOK φ T tm ρ) {x : Operand} {i : Nat} (ho : o.op = .extract x i) (hc : cOp T o.op = some iop) (hb : opA tm h iop = .val v h') :
    Runs P cs φ h w (execOp ρ o) v h' := by
  rw [ho] at hc
  simp only [cOp] at hc
  cases hx : cX T x with
  | none => rw [hx] at hc; cases hc
  | some X =>
    rw [hx] at hc
    cases hc
    simp only [opA] at hb
    simp only [execOp, ho]
    exact .same hr (extract_run (P := P) (cX_ok he hx) hb)
theorem ok_nilCheck (hr : HR cs φ h w) (he : EvOK φ T tm ρ) {x : Operand} (ho : o.op = .nilCheck x) (hc : cOp T o.op = some iop) (hb : opA tm h iop = .val v h') :
    Runs P cs φ h w (execOp ρ o) v h' := by
  rw [ho] at hc
  simp only [cOp] at hc
  cases hx : cX T x with
  | none => rw [hx] at hc; cases hc
  | some X =>
    rw [hx] at hc
    cases hc
    simp only [opA] at hb
    obtain ⟨g1, g2, g3⟩ := nilCheck_run (cX_ok he hx) hb
    simp only [execOp, ho]
    rcases g3 with ⟨a, e⟩ | ⟨f, a, b, e⟩
    · rw [e] at g2 ⊢
      exact .now hr ⟨g1, g2⟩
    · rw [e] at g2 ⊢
      exact .now hr ⟨g1, g2⟩
end Go.Eng
end
section
namespace Go.Eng
variable {P : Program} {cs : Nat → Option CSite} {φ : Phi} {h : H} {w : World}
theorem run_getIter {r : Nat} {om : Option Nat} {since last : Nat} {seen : Array Nat} (hm : w.heap[r]? = some (.mapIter om since seen last)) : (getObj r).run P w = .ok (.mapIter om since seen last) w := by
  simp [getObj, Sem.run, hm]
theorem iter_blk (hr : HR cs φ h w) {b : Id} {cb : CB} (hb : φ b = some cb) {m : V} {since : Nat} {seen : List Nat} (hv : (h.blk b).view = .iter m since seen) :
    cb.off = 0 ∧ ∃ om arr, w.heap[cb.blk]? = some (.mapIter om since arr since) ∧ arr.toList = seen ∧ VR φ m (.map om) := by
  have := hr.blks b cb hb
  rw [hv] at this
  exact this
theorem range_run (hr : HR cs φ h w) {t kt et : TypeId} (hd : P.underlying t = some (.map kt et)) {x v : V} {c : Value} {h' : H} (hx : VR φ x c) {tm : T} {X : IX} (eX : ev tm X = x) (hb : opA tm h (.range X) = .val v h') :
    ∃ r w', (Instr.range t c).run P w = .ok r w' ∧ Sim cs φ h w v h' r w' := by
  simp only [opA, eX] at hb
  have hu : (underlying t).run P w = .ok (.map kt et) w := by simp [underlying, hd]
  split at hb
  · rename_i b hv
    obtain ⟨cb, hb', rfl⟩ := hx.mp_inv hv
    split at hb
    · rename_i es clk hbv
      obtain ⟨ces, hm, hE⟩ := map_blk hr hb' hbv
      split at hb
      · rename_i hroom
        cases hb
        refine ⟨.pointer (some ⟨w.heap.size, 0, none⟩), pushed w (.mapIter (some cb.blk) clk #[] clk), ?_, φ.add (.of h.next) ⟨w.heap.size, 0, 0⟩, hr.new hroom ?_, Ext.new hr hroom, ?_⟩
        · simp [Instr.range, hu, run_getMap hm, pushed]
        · rw [bview_iter]
          exact ⟨rfl, some cb.blk, #[], getElem?_push_new _ _, rfl, .mp (view_mp _) (Phi.le_add (hr.none hroom) _ _ _ hb')⟩
        · exact .ptr (cb := ⟨w.heap.size, 0, 0⟩) (view_ptr _ _) (Phi.add_same _ _ _)
      · cases hb
    · cases hb
  · cases hb
theorem find_run : ∀ {es : List E} {ces : List MapEntry} {stamp : Nat} {e : E}, ERL φ es ces → es.find? (fun e => Nat.beq e.born stamp) = some e → ∃ c, ces.find? (fun c => c.born == stamp) = some c ∧ ER φ e c
  | [], _, _, _, _, h => by simp at h
  | e0 :: es, _, stamp, e, .cons (c := c0) h0 hs, h => by
    simp only [List.find?_cons] at h ⊢
    by_cases hb : Nat.beq e0.born stamp = true
    · rw [hb] at h
      cases h
      have : (c0.born == stamp) = true := by rw [← h0.born]; simpa using Nat.eq_of_beq_eq_true hb
      rw [this]
      exact ⟨c0, rfl, h0⟩
    · have hb' : Nat.beq e0.born stamp = false := by
        cases hx : Nat.beq e0.born stamp with
        | true => exact absurd hx hb
        | false => rfl
      rw [hb'] at h
      have : (c0.born == stamp) = false := by
        rw [← h0.born]
        simp only [beq_eq_false_iff_ne, ne_eq]
        intro hc
        exact hb (by rw [hc]; exact Nat.beq_refl _)
      rw [this]
      exact find_run hs h
theorem entry_run (hr : HR cs φ h w) {x v : V} {c : Value} {h' : H} (hx : VR φ x c) {tm : T} {X : IX} (eX : ev tm X = x) (hb : opA tm h (.entry X) = .val v h') :
    h' = h ∧ ∃ r, (Instr.entry c).run P w = .ok r w ∧ VR φ v r := by
  simp only [opA, eX] at hb
  split at hb
  · rename_i b hv
    obtain ⟨cb, hb', rfl⟩ := hx.ptr_inv hv
    split at hb
    · rename_i m since seen hbv
      obtain ⟨hoff, om, arr, hi, hseen, hm⟩ := iter_blk hr hb' hbv
      split at hb
      · rename_i mb stamp hmv hlast
        obtain ⟨cbm, hbm, hom⟩ := hm.mp_inv hmv
        cases hom
        split at hb
        · rename_i es clk hmb
          obtain ⟨ces, hmap, hE⟩ := map_blk hr hbm hmb
          split at hb
          · rename_i hclk
            subst hclk
            split at hb
            · rename_i e hfind
              cases hb
              obtain ⟨ce, hfc, hER⟩ := find_run hE hfind
              refine ⟨rfl, .tuple #[ce.key, ce.val], ?_, .tup (view_tup _) (.cons hER.key (.cons hER.val .nil))⟩
              have hback : arr.back? = some stamp := by rw [← Array.getLast?_toList, hseen]; exact hlast
              have hfa : ces.find? (fun x => x.born == stamp) = some ce := by rw [← Array.find?_toList]; exact hfc
              simp only [hoff]
              simp [Instr.entry, run_getIter hi, hback, run_getMap hmap, hfa]
            · cases hb
          · cases hb
        · cases hb
      · cases hb
    · cases hb
  · cases hb
open Go.ChangeMaps (setBlock)
theorem filter_run : ∀ {es : List E} {ces : List MapEntry} {seen : List Nat}, ERL φ es ces →
    ERL φ (es.filter fun e => !(seen.any fun n => Nat.beq n e.born)) (ces.filter fun c => !seen.contains c.born)
  | [], _, _, .nil => .nil
  | e :: es, _, seen, .cons (c := c) h0 hs => by
    have hb : (seen.any fun n => Nat.beq n e.born) = seen.contains c.born := by
      rw [h0.born, List.contains_eq_any_beq]
      congr 1
      funext n
      rw [Bool.eq_iff_iff]
      simp only [beq_iff_eq]
      exact ⟨fun h => (Nat.eq_of_beq_eq_true h).symm, fun h => by rw [h]; exact Nat.beq_refl _⟩
    simp only [List.filter_cons, hb]
    cases seen.contains c.born with
    | true => exact filter_run hs
    | false => exact .cons h0 (filter_run hs)
theorem ERL.mem {es : List E} {ces : List MapEntry} (h : ERL φ es ces) : ∀ {c : MapEntry}, c ∈ ces → ∃ e ∈ es, ER φ e c := by
  induction h with
  | nil => intro c hc; cases hc
  | cons h0 _ ih =>
    intro c hc
    cases hc with
    | head => exact ⟨_, List.mem_cons_self .., h0⟩
    | tail _ hc =>
      obtain ⟨e, he, hE⟩ := ih hc
      exact ⟨e, List.mem_cons_of_mem _ he, hE⟩
theorem walk_inv {it : V} {k : Wk} (hk : walkA h it = some k) : ∃ es, it.view = .ptr k.b 0 ∧ (h.blk k.b).view = .iter k.m k.since k.seen ∧ k.m.view = .mp k.mb ∧ (h.blk k.mb).view = .map es k.since ∧
    (es.all fun e => Nat.blt e.born k.since) = true ∧ k.l = es.filter fun e => !(k.seen.any fun n => Nat.beq n e.born) := by
  unfold walkA at hk
  split at hk
  · rename_i b hv
    split at hk
    · rename_i m since seen hbv
      split at hk
      · rename_i mb hmv
        split at hk
        · rename_i es clk hmb
          split at hk
          · rename_i hcond
            cases hk
            obtain ⟨rfl, h2⟩ := hcond
            exact ⟨es, hv, hbv, hmv, hmb, h2, rfl⟩
          · cases hk
        · cases hk
      · cases hk
    · cases hk
  · cases hk
theorem next_gen (hr : HR cs φ h w) {it : V} {c : Value} (hx : VR φ it c) {k : Wk} (hk : walkA h it = some k) (ty : TypeId) :
    (k.l = [] ∧ (Instr.next c false ty).run P w = .ok (.tuple #[.bool false]) w) ∨
    ∃ e ∈ k.l, ∃ ce w', ER φ e ce ∧ (Instr.next c false ty).run P w = .ok (.tuple #[.bool true, ce.key, ce.val]) w' ∧ HR cs φ (k.to e h) w' ∧ Ext φ h w φ (k.to e h) w' := by
  obtain ⟨es, h1, h2, h3, h4, h5, h6⟩ := walk_inv hk
  obtain ⟨cb, hb, rfl⟩ := hx.ptr_inv h1
  obtain ⟨hoff, om, arr, hi, hseen, hm⟩ := iter_blk hr hb h2
  obtain ⟨cbm, hbm, hom⟩ := hm.mp_inv h3
  cases hom
  obtain ⟨ces, hmap, hE⟩ := map_blk hr hbm h4
  have hL := filter_run (seen := k.seen) hE
  rw [← h6] at hL
  have hleft : (leftOf ces arr).toList = ces.toList.filter fun c => !k.seen.contains c.born := by
    unfold leftOf
    rw [Array.toList_filter]
    congr 1
    funext x
    rw [← hseen, Array.contains_toList]
  rw [← hleft] at hL
  have hborn : ∀ x ∈ ces.toList, x.born < k.since := by
    intro x hx
    obtain ⟨e, he, hER⟩ := hE.mem hx
    rw [← hER.born]
    have := List.all_eq_true.1 h5 e he
    exact Nat.le_of_ble_eq_true this
  simp only [hoff, Nat.zero_add]
  rcases run_next_at (P := P) w ty cb.blk cbm.blk k.since k.since arr ces k.since hi hmap hborn (Nat.le_refl _) with ⟨hz, hrun⟩ | ⟨ce, hce, w1, hw1, hrun⟩
  · left
    have : (leftOf ces arr).toList = [] := by
      apply List.eq_nil_of_length_eq_zero
      rw [Array.length_toList]; exact hz
    rw [this] at hL
    refine ⟨?_, hrun⟩
    cases hl : k.l with
    | nil => rfl
    | cons => rw [hl] at hL; cases hL
  · right
    obtain ⟨e, he, hER⟩ := hL.mem hce
    refine ⟨e, he, ce, _, hER, hrun, ?_⟩
    have hheap : w1.heap = w.heap := by rcases hw1 with rfl | rfl <;> rfl
    have hlt : cb.blk < w.heap.size := by
      rcases Nat.lt_or_ge cb.blk w.heap.size with hlt | hge
      · exact hlt
      · rw [Array.getElem?_eq_none hge] at hi; cases hi
    have hoth : ∀ B, B ≠ cb.blk → (setBlock w1 cb.blk (.mapIter (some cbm.blk) k.since (arr.push ce.born) k.since)).heap[B]? = w.heap[B]? := by
      intro B hB
      show (w1.heap.setIfInBounds _ _)[B]? = _
      rw [hheap, Array.getElem?_setIfInBounds_ne (Ne.symm hB)]
    have hself : (setBlock w1 cb.blk (.mapIter (some cbm.blk) k.since (arr.push ce.born) k.since)).heap[cb.blk]? = some (.mapIter (some cbm.blk) k.since (arr.push ce.born) k.since) := by
      show (w1.heap.setIfInBounds _ _)[_]? = _
      rw [hheap, Array.getElem?_setIfInBounds_self_of_lt hlt]
    refine ⟨hr.put hb (by rw [h2]; rfl) hoth ?_, Ext.put hb (by rw [h2]; rfl) hoth ?_ ?_ ?_ ?_⟩
    · rw [bview_iter]
      exact ⟨hoff, some cbm.blk, _, hself, by simp [hseen, hER.born], hm⟩
    · show (w1.heap.setIfInBounds _ _).size = _
      rw [Array.size_setIfInBounds, hheap]
    · show w1.os = _
      rcases hw1 with rfl | rfl <;> rfl
    · show w1.output = _
      rcases hw1 with rfl | rfl <;> rfl
    · show w1.tape = _
      rcases hw1 with rfl | rfl <;> rfl
theorem over_ok : VR φ overA (.tuple #[.bool false]) := .tup (view_tup _) (.cons (.bool (view_bool _)) .nil)
theorem tok_ok {e : E} {c : MapEntry} (h : ER φ e c) : VR φ (tokA e) (.tuple #[.bool true, c.key, c.val]) := .tup (view_tup _) (.cons (.bool (view_bool _)) (.cons h.key (.cons h.val .nil)))
theorem next_run (hr : HR cs φ h w) {x v : V} {c : Value} {ty : TypeId} {h' : H} (hx : VR φ x c) {tm : T} {X : IX} (eX : ev tm X = x) (hb : opA tm h (.next X) = .val v h') :
    ∃ r w', (Instr.next c false ty).run P w = .ok r w' ∧ HR cs φ h' w' ∧ Ext φ h w φ h' w' ∧ VR φ v r := by
  simp only [opA, eX] at hb
  cases hk : walkA h x with
  | none => rw [hk] at hb; cases hb
  | some k =>
    rw [hk] at hb
    have hg := next_gen (P := P) hr hx hk ty
    cases hl : k.l with
    | nil =>
      simp only [hl] at hb hg
      cases hb
      rcases hg with ⟨_, hrun⟩ | ⟨e, he, _⟩
      · exact ⟨_, w, hrun, hr, .refl _ _ _, over_ok⟩
      · cases he
    | cons e l =>
      cases l with
      | cons => simp only [hl] at hb; cases hb
      | nil =>
        simp only [hl] at hb hg
        cases hb
        rcases hg with ⟨h0, _⟩ | ⟨e', he, ce, w', g1, g2, g3, g4⟩
        · cases h0
        · simp at he
          subst he
          exact ⟨_, w', g2, g3, g4, tok_ok g1⟩
end Go.Eng
end
section
namespace Go.Eng
variable {P : Program} {cs : Nat → Option CSite} {φ : Phi} {h : H} {w : World} {T : Tab} {tm : Go.Eng.T} {ρ : Operand → Value} {o : Oper} {iop : IOp} {v : V} {h' : H}
def IOp.plain : IOp → Bool
  | .call .. | .recover | .defer .. | .panic _ | .bad => false
  | _ => true
theorem toArr {α : Type} {a : Array α} {l : List α} (h : a.toList = l) : a = l.toArray := by rw [← h]
theorem builtin_exec {c : Call} {b : Builtin} (ho : o.op = .call c) (hb : c.callee = .builtin b) : ∃ k, execOp ρ o = builtin b c.argTypes o.type k (c.args.map ρ) := by
  refine ⟨c.args.map fun | .const _ => true | _ => false, ?_⟩
  simp only [execOp, ho, resolve, hb]
  rfl
theorem ok_builtin (hr : HR cs φ h w) (ht : TabOK P T) (he : EvOK φ T tm ρ) {c : Call} {b : Builtin} (ho : o.op = .call c) (hcb : c.callee = .builtin b) {args : List IX} (ha : oMap (cX T) c.args.toList = some args)
    (hc : cBuiltin T b c.argTypes.toList args = some iop) (hpl : iop.plain = true) (hb : opA tm h iop = .val v h') :
    Runs P cs φ h w (execOp ρ o) v h' := by
  obtain ⟨k, hex⟩ := builtin_exec (ρ := ρ) ho hcb
  have hvs := cXs_ok he ha
  have hargs : c.args.map ρ = (c.args.toList.map ρ).toArray := by apply Array.ext'; simp
  rw [hex, hargs]
  generalize c.args.toList.map ρ = vs at hvs
  unfold cBuiltin at hc
  split at hc
  · rename_i t x e1
    rw [toArr e1]
    cases hk : cLen T t with
    | none => rw [hk] at hc; cases hc
    | some q =>
      rw [hk] at hc
      cases hc
      obtain ⟨d, hd, hl⟩ := cLen_ok ht hk
      cases hvs with
      | cons hv hn =>
        cases hn
        simp only [opA] at hb
        exact .same hr (len_run (P := P) hr hd hl hv _ hb)
  · rename_i t x e1
    rw [toArr e1]
    cases hvs with
    | cons hv hn =>
      cases hn
      split at hc
      · rename_i n hk
        cases hc
        obtain ⟨d, hd, hl⟩ := cLen_ok ht hk
        simp only [opA] at hb
        exact .same hr (cap_run (P := P) (k := .arr n) hd hl hv _ hb)
      · rename_i hk
        cases hc
        obtain ⟨d, hd, hl⟩ := cLen_ok ht hk
        simp only [opA] at hb
        refine .same hr (cap_run (P := P) (k := .sl) hd hl hv _ ?_)
        revert hb
        cases (ev tm x).view <;> exact fun hb => hb
      · cases hc
  · rename_i sT xT s x e1
    rw [toArr e1]
    cases hvs with
    | cons hv1 hn =>
      cases hn with
      | cons hv2 hn =>
        cases hn
        split at hc
        · rename_i a b' hsa hxb
          split at hc
          · rename_i e hd
            split at hc
            · rename_i i hi
              split at hc
              · rename_i z hz
                cases hc
                simp only [opA] at hb
                have da := (ht.ty _ _ hsa).desc
                rw [hd] at da
                exact .val (append_run hr (ht.ty _ _ hi) hz da (ht.ty _ _ hxb).desc hv1 hv2 _ hb)
              · cases hc
            · cases hc
          · cases hc
        · cases hc
  · rename_i dT sT d s e1
    rw [toArr e1]
    cases hvs with
    | cons hv1 hn =>
      cases hn with
      | cons hv2 hn =>
        cases hn
        split at hc
        · rename_i a hda
          split at hc
          · rename_i e hd
            split at hc
            · rename_i i hi
              cases hc
              have da := (ht.ty _ _ hda).desc
              rw [hd] at da
              exact .val' (copy_run hr (ht.ty _ _ hi) da hv1 hv2 _ rfl rfl hb)
            · cases hc
          · cases hc
        · cases hc
  · rename_i x xs
    cases hc
    cases hvs with
    | cons hv1 hn =>
      simp only [opA] at hb
      exact .same hr (minmax_run (P := P) false hv1 hn c.argTypes o.type hb)
  · rename_i x xs
    cases hc
    cases hvs with
    | cons hv1 hn =>
      simp only [opA] at hb
      exact .same hr (minmax_run (P := P) true hv1 hn c.argTypes o.type hb)
  · cases hc
    cases hpl
  · rename_i t x e1
    rw [toArr e1]
    cases hvs with
    | cons hv hn =>
      cases hn
      split at hc
      · rename_i a hta
        have da := (ht.ty _ _ hta).desc
        split at hc
        · rename_i e hd
          split at hc
          · rename_i i hi
            cases hz : i.zero with
            | none => rw [hz] at hc; cases hc
            | some z =>
              rw [hz] at hc
              cases hc
              simp only [opA] at hb
              exact .val (clear_run hr (zs := some (cellsOf z)) da ⟨_, i, z, hd, ht.ty _ _ hi, hz, rfl⟩ hv _ (by
                revert hb
                cases (ev tm x).view <;> exact fun hb => hb))
          · cases hc
        · rename_i a1 b1 hd
          cases hc
          simp only [opA] at hb
          exact .val (clear_run hr (zs := none) da ⟨_, _, hd⟩ hv _ (by
            revert hb
            cases (ev tm x).view <;> exact fun hb => hb))
        · cases hc
      · cases hc
  · rename_i pt it p n e1
    rw [toArr e1]
    cases hvs with
    | cons hv1 hn =>
      cases hn with
      | cons hv2 hn =>
        cases hn
        split at hc
        · rename_i a hpa
          split at hc
          · rename_i u hd
            split at hc
            · rename_i i hi
              split at hc
              · rename_i h1
                cases hc
                have da := (ht.ty _ _ hpa).desc
                rw [hd] at da
                obtain ⟨d, g1, g2, _⟩ := (ht.ty _ _ hi).info
                have hcell : P.cellsOf u = 1 := by simp [Program.cellsOf, g1, g2, h1]
                simp only [opA] at hb
                exact .val (unsafeString_run hr da hcell hv1 hv2 _ hb)
              · cases hc
            · cases hc
          · cases hc
        · cases hc
  · rename_i ts x
    cases hc
    cases hvs with
    | cons hv hn =>
      cases hn
      simp only [opA] at hb
      exact .same hr (unsafeSliceData_run (P := P) hv _ _ hb)
  · cases hc
    cases hpl
  · cases hc
theorem ok_range (hr : HR cs φ h w) (ht : TabOK P T) (he : EvOK φ T tm ρ) {t : TypeId} {x : Operand} (ho : o.op = .range t x) (hc : cOp T o.op = some iop) (hb : opA tm h iop = .val v h') :
    Runs P cs φ h w (execOp ρ o) v h' := by
  rw [ho] at hc
  simp only [cOp] at hc
  split at hc
  · rename_i i X hi hx
    split at hc
    · rename_i kt e e1
      cases hc
      simp only [execOp, ho]
      exact .val (range_run hr (P := P) (t := t) (kt := kt) (et := e) (by rw [← e1]; exact (ht.ty _ _ hi).desc) (cX_ok he hx) rfl hb)
    · cases hc
  · cases hc
theorem ok_entry (hr : HR cs φ h w) (he : EvOK φ T tm ρ) {x : Operand} (ho : o.op = .entry x) (hc : cOp T o.op = some iop) (hb : opA tm h iop = .val v h') :
    Runs P cs φ h w (execOp ρ o) v h' := by
  rw [ho] at hc
  simp only [cOp] at hc
  cases hx : cX T x with
  | none => rw [hx] at hc; cases hc
  | some X =>
    rw [hx] at hc
    cases hc
    simp only [execOp, ho]
    exact .same hr (entry_run hr (P := P) (cX_ok he hx) rfl hb)
theorem ok_next (hr : HR cs φ h w) (he : EvOK φ T tm ρ) {x : Operand} {s : Bool} (ho : o.op = .next x s) (hc : cOp T o.op = some iop) (hb : opA tm h iop = .val v h') :
    Runs P cs φ h w (execOp ρ o) v h' := by
  rw [ho] at hc
  simp only [cOp] at hc
  cases s with
  | true => simp at hc
  | false =>
    cases hx : cX T x with
    | none => rw [hx] at hc; simp at hc
    | some X =>
      rw [hx] at hc
      simp at hc
      subst hc
      simp only [execOp, ho]
      exact .val' (next_run hr (P := P) (cX_ok he hx) rfl hb)
theorem ok_op (hr : HR cs φ h w) (ht : TabOK P T) (he : EvOK φ T tm ρ) (hc : cOp T o.op = some iop) (hpl : iop.plain = true) (hb : opA tm h iop = .val v h') :
    Runs P cs φ h w (execOp ρ o) v h' := by
  cases ho : o.op with
  | move x => rw [ho] at hc; exact ok_mv hr he (.inl ho) hc hb
  | assign x => rw [ho] at hc; exact ok_mv hr he (.inr ho) hc hb
  | pick c a b => exact ok_pick hr he ho hc hb
  | alloc t => exact ok_alloc hr ht ho hc hb
  | box t x => exact ok_box hr he ho hc hb
  | build t ps => exact ok_build hr ht he ho hc hb
  | buildSlice t n ps => exact ok_buildSlice hr ht he ho hc hb
  | insert t x y z => rw [ho] at hc; exact ok_mapUpdate hr ht he (.inr ho) hc hb
  | mapUpdate t x y z => rw [ho] at hc; exact ok_mapUpdate hr ht he (.inl ho) hc hb
  | load t x => exact ok_load hr ht he ho hc hb
  | store t x y => exact ok_store hr ht he ho hc hb
  | nilCheck x => exact ok_nilCheck hr he ho hc hb
  | binOp op t x y yt => exact ok_bin hr ht he ho hc hb
  | unOp op t x => exact ok_un hr he ho hc hb
  | convert s d x => exact ok_convert hr ht he ho hc hb
  | makeInterface t x => exact ok_mkIface hr ht he ho hc hb
  | makeFunc fn a c =>
    cases fn with
    | func f => exact ok_mkFunc hr he ho hc hb
    | _ => rw [ho] at hc; simp [cOp] at hc
  | makeMap t r =>
    cases r with
    | none => exact ok_mkMap hr ho hc hb
    | some _ => rw [ho] at hc; simp [cOp] at hc
  | makeSlice t x y => exact ok_mkSlice hr ht he ho hc hb
  | slice t x lo hi mx => exact ok_slice hr ht he ho hc hb
  | fieldAddr t x f => exact ok_fieldAddr hr ht he ho hc hb
  | field t x f => exact ok_field hr ht he ho hc hb
  | indexAddr t x y => exact ok_indexAddr hr ht he ho hc hb
  | index t x y => exact ok_index hr ht he ho hc hb
  | lookup t x y ok => exact ok_lookup hr ht he ho hc hb
  | mapEntry t x y => exact ok_mapEntry hr ht he ho hc hb
  | entryStore t x y z => exact ok_entryStore hr he ho hc hb
  | range t x => exact ok_range hr ht he ho hc hb
  | entry x => exact ok_entry hr he ho hc hb
  | next x s => exact ok_next hr he ho hc hb
  | typeAssert x xt t ok => exact ok_typeAssert hr ht he ho hc hb
  | extract x i => exact ok_extract hr he ho hc hb
  | panic x =>
    rw [ho] at hc
    simp only [cOp] at hc
    cases hx : cX T x with
    | none => rw [hx] at hc; cases hc
    | some X => rw [hx] at hc; cases hc; cases hpl
  | defer c =>
    rw [ho] at hc
    simp only [cOp] at hc
    split at hc
    · split at hc
      · cases hc; cases hpl
      · cases hc
    · cases hc
  | call c =>
    have hc2 := hc
    rw [ho] at hc2
    simp only [cOp] at hc2
    split at hc2
    · rename_i args ha
      split at hc2
      · split at hc2
        · cases hc2; cases hpl
        · cases hc2; cases hpl
      · rename_i x _ _
        cases hx : cX T x with
        | none => rw [hx] at hc2; cases hc2
        | some X => rw [hx] at hc2; cases hc2; cases hpl
      · rename_i b hcb
        exact ok_builtin hr ht he ho hcb ha hc2 hpl hb
      · cases hc2
    · cases hc2
  | _ => rw [ho] at hc; simp [cOp] at hc
end Go.Eng
end
section
namespace Go.Eng
theorem newA_pn {h : H} {e : Nat} {x : Bool} {vs : List V} {k : Id → V} {v : V} {h' : H} (hb : newA h e x vs k = .val v h') : h'.pn = h.pn := by
  unfold newA at hb
  split at hb
  · cases hb; rfl
  · cases hb
theorem storeA_pn {h : H} {b : Id} {o : Nat} {vs : List V} {h' : H} (hb : storeA h b o vs = some h') : h'.pn = h.pn := by
  unfold storeA at hb
  split at hb
  · split at hb
    · cases hb; rfl
    · cases hb
  · cases hb
theorem loadA_pn {h : H} {n : Option Nat} {x v : V} {h' : H} (hb : loadA h n x = .val v h') : h' = h := by
  unfold loadA at hb
  split at hb
  · split at hb
    · split at hb
      · cases hb; rfl
      · cases hb
    · split at hb
      · cases hb; rfl
      · cases hb
  · cases hb
theorem appendN_pn {h : H} {elem es : Nat} {s : V} {new : List V} {n : Nat} {v : V} {h' : H} (hb : appendN h elem es s new n = .val v h') : h'.pn = h.pn := by
  unfold appendN at hb
  split at hb
  · split at hb
    · cases hb; rfl
    · exact newA_pn hb
  · split at hb
    · split at hb
      · split at hb
        · cases hb; rfl
        · split at hb
          · rename_i hs; cases hb; exact storeA_pn hs
          · cases hb
      · split at hb
        · split at hb
          · exact newA_pn hb
          · cases hb
        · split at hb
          · split at hb
            · cases hb; rfl
            · cases hb
          · cases hb
    · cases hb
  · cases hb
theorem opAppend_pn {h : H} {elem es by' : Nat} {z : Option (List V)} {s x v : V} {h' : H} (hb : opAppend h elem es by' z s x = .val v h') : h'.pn = h.pn := by
  unfold opAppend at hb
  split at hb
  · split at hb
    · exact appendN_pn hb
    · cases hb
  · cases hb
theorem opSlice_pn {h : H} {k : SlK} {x : V} {lo hi mx : Option V} {v : V} {h' : H} (hb : opSlice h k x lo hi mx = .val v h') : h' = h := by
  unfold opSlice at hb
  split at hb <;> (repeat' split at hb) <;> first | (cases hb; rfl) | cases hb
theorem opA_pn {tm : T} {h : H} {op : IOp} {v : V} {h' : H} (hb : opA tm h op = .val v h') : h'.pn = h.pn := by
  cases op with
  | alloc => simp only [opA] at hb; exact newA_pn hb
  | box => simp only [opA] at hb; exact newA_pn hb
  | load => simp only [opA] at hb; exact congrArg H.pn (loadA_pn hb)
  | slice => simp only [opA] at hb; exact congrArg H.pn (opSlice_pn hb)
  | append => simp only [opA] at hb; exact opAppend_pn hb
  | buildSlice e es len zs ps =>
    simp only [opA] at hb
    split at hb
    · split at hb
      · split at hb
        · exact newA_pn hb
        · cases hb
      · cases hb
    · cases hb
  | mkSlice e es by' zs l c =>
    simp only [opA] at hb
    split at hb
    · split at hb
      · exact newA_pn hb
      · cases hb
    · cases hb
  | store n x v =>
    simp only [opA] at hb
    split at hb
    · split at hb
      · split at hb
        · rename_i hs; cases hb; exact storeA_pn hs
        · cases hb
      · cases hb
    · cases hb
  | copy es d s =>
    simp only [opA] at hb
    split at hb
    · cases hb; rfl
    · split at hb
      · split at hb
        · split at hb
          · cases hb; rfl
          · split at hb
            · rename_i hs; cases hb; exact storeA_pn hs
            · cases hb
        · cases hb
      · cases hb
    · cases hb
  | clear zs x =>
    simp only [opA] at hb
    split at hb
    · cases hb; rfl
    · cases hb; rfl
    · split at hb
      · cases hb; rfl
      · split at hb
        · rename_i hs; cases hb; exact storeA_pn hs
        · cases hb
    · split at hb
      · cases hb; rfl
      · cases hb
    · cases hb
  | _ =>
    simp only [opA] at hb
    first
      | (cases hb; done)
      | (cases hb; rfl; done)
      | ((repeat' split at hb) <;> first | (cases hb; done) | (cases hb; rfl))
end Go.Eng
end
section
namespace Go.Eng
variable {P : Program} {cs : Nat → Option CSite} {φ : Phi} {h : H} {w : World} {T : Tab} {tm : Go.Eng.T} {ρ : Operand → Value}
def frA (b : Frame) (a : Act) (todo : List Item) : Frame := { b with tmps := a.tmps, todo, defers := a.defers, mode := .run }
section steps
variable {b : Frame} {a : Act} {k : List Item} {cl : List Frame}
theorem eval_frA (b : Frame) (a : Act) (todo : List Item) (x : Operand) : (frA b a todo).eval x = a.eval x := by cases x <;> rfl
theorem st_skip : step P (lone (frA b a (.code .skip :: k)) cl w) = .next (lone (frA b a k) cl w) := step_lone_go (by simp [stepG, stepG.exec, frA])
theorem st_label {l : Nat} : step P (lone (frA b a (.code (.label l) :: k)) cl w) = .next (lone (frA b a k) cl w) := step_lone_go (by simp [stepG, stepG.exec, frA])
theorem st_inBlock {id : Nat} : step P (lone (frA b a (.inBlock id :: k)) cl w) = .next (lone (frA b a k) cl w) := step_lone_go (by simp [stepG, stepG.exec, frA])
theorem st_inScope {c : Code} : step P (lone (frA b a (.inScope c :: k)) cl w) = .next (lone (frA b a k) cl w) := step_lone_go (by simp [stepG, stepG.exec, frA])
theorem st_seq {x y : Code} : step P (lone (frA b a (.code (.seq x y) :: k)) cl w) = .next (lone (frA b a (.code x :: .code y :: k)) cl w) := step_lone_go (by simp [stepG, stepG.exec, frA])
theorem st_scope {x : Code} : step P (lone (frA b a (.code (.scope x) :: k)) cl w) = .next (lone (frA b a (.code x :: .inScope x :: k)) cl w) := step_lone_go (by simp [stepG, stepG.exec, frA])
theorem st_block {id : Nat} {x : Code} : step P (lone (frA b a (.code (.block id x) :: k)) cl w) = .next (lone (frA b a (.code x :: .inBlock id :: k)) cl w) := step_lone_go (by simp [stepG, stepG.exec, frA])
theorem st_loop {x : Code} : step P (lone (frA b a (.code (.loop x) :: k)) cl w) = .next (lone (frA b a (.code x :: .inLoop x :: k)) cl w) := step_lone_go (by simp [stepG, stepG.exec, frA])
theorem st_inLoop {x : Code} : step P (lone (frA b a (.inLoop x :: k)) cl w) = .next (lone (frA b a (.code x :: .inLoop x :: k)) cl w) := step_lone_go (by simp [stepG, stepG.exec, frA])
theorem st_cond {c : Operand} {x y : Code} {t : Bool} (hc : a.eval c = .bool t) :
    step P (lone (frA b a (.code (.cond c x y) :: k)) cl w) = .next (lone (frA b a (.code (if t then x else y) :: k)) cl w) :=
  step_lone_go (by
    have he := eval_frA b a (.code (.cond c x y) :: k) c
    simp only [frA] at he
    simp [stepG, stepG.exec, frA, he, hc])
theorem st_exit {id : Nat} {k' : List Item} (hx : exitTo id k = some k') : step P (lone (frA b a (.code (.exit id) :: k)) cl w) = .next (lone (frA b a k') cl w) := step_lone_go (by simp [stepG, stepG.exec, frA, hx])
theorem st_region {id : Nat} {ops : Array Oper} : step P (lone (frA b a (.code (.region id ops false) :: k)) cl w) = .next (lone (frA b a (.inRegion ops (List.range ops.size) :: k)) cl w) := step_lone_go (by simp [stepG, stepG.exec, frA])
theorem st_region_draw {id : Nat} {ops : Array Oper} : step P (lone (frA b a (.code (.region id ops true) :: k)) cl w) =
    .next (lone (frA b a (.inRegion ops (Region.schedule (P.follows .mixedOrders) ops (w.tape w.drawn (.order b.fn id))) :: k)) cl (drewW w)) :=
  step_lone_go (by simp [stepG, stepG.exec, frA, choose, Sem.run, Question.forced, Question.cut, drewW])
theorem st_region_end {ops : Array Oper} : step P (lone (frA b a (.inRegion ops [] :: k)) cl w) = .next (lone (frA b a k) cl w) := step_lone_go (by simp [stepG, stepG.exec, frA])
theorem st_end (hr : b.roundOf = none) : step P (lone (frA b a []) cl w) = .next (lone { frA b a [] with mode := .returning } cl w) := step_lone_go (by simp [stepG, stepG.exec, frA, hr])
theorem st_ret (hr : b.roundOf = none) : step P (lone (frA b a (.code .ret :: k)) cl w) = .next (lone { frA b a (.code .ret :: k) with mode := .returning } cl w) := step_lone_go (by simp [stepG, stepG.exec, frA, hr])
theorem finish_frA (b : Frame) (a : Act) (ops : Array Oper) (i : Nat) (rest : List Nat) (k : List Item) (v : Value) :
    (frA b a (.inRegion ops (i :: rest) :: k)).finish v = frA b (a.put ((ops[i]?).bind (·.dst)) v) (.inRegion ops rest :: k) := by
  cases h : (ops[i]?).bind (·.dst) <;> simp [Frame.finish, frA, Act.put, h]
theorem st_op_skip {ops : Array Oper} {i : Nat} {rest : List Nat} (hw : ((ops[i]?).map (Region.wanted · (yielded ops a.tmps))).getD false = false) :
    step P (lone (frA b a (.inRegion ops (i :: rest) :: k)) cl w) = .next (lone (frA b (a.put ((ops[i]?).bind (·.dst)) undef) (.inRegion ops rest :: k)) cl w) := by
  rw [← finish_frA]
  exact step_lone_go (by
    have h' := hw
    simp only [frA] at *
    simp [stepG, stepG.exec, h'])
def Applies (P : Program) (m : Machine) (fr : Frame) (cl : List Frame) (s : Sem Next) (w : World) : Prop :=
  ∀ fr' cl' w', (stepG.apply P true fr cl none s w).bare = .go { frame := fr', callers := cl', status := .running, dying := none } w' → step P m = .next (lone fr' cl' w')
theorem st_op {ops : Array Oper} {i : Nat} {rest : List Nat} {o : Oper} (ho : ops[i]? = some o) (hw : Region.wanted o (yielded ops a.tmps) = true) (hd : b.roundOf = none ∨ ∀ c, o.op ≠ .defer c) :
    Applies P (lone (frA b a (.inRegion ops (i :: rest) :: k)) cl w) (frA b a (.inRegion ops (i :: rest) :: k)) cl (execOp a.eval o) w := by
  intro fr' cl' w' happ
  refine step_lone_go ?_
  rw [← happ]
  have he : (frA b a (.inRegion ops (i :: rest) :: k)).eval = a.eval := funext (eval_frA b a _)
  have key : stepG P true { frame := frA b a (.inRegion ops (i :: rest) :: k), callers := cl, status := .running, dying := none } w =
      stepG.apply P true (frA b a (.inRegion ops (i :: rest) :: k)) cl none (execOp a.eval o) w := by
    rcases hd with hd | hd
    · simp only [frA, hd] at he
      simp [stepG, stepG.exec, stepG.oper, Frame.oper?, frA, ho, hw, he, hd]
    · cases hb : b.roundOf with
      | none =>
        simp only [frA, hb] at he
        simp [stepG, stepG.exec, stepG.oper, Frame.oper?, frA, ho, hw, he, hb]
      | some l =>
        simp only [frA, hb] at he
        simp only [stepG, stepG.exec, stepG.oper, Frame.oper?, frA, ho, hw, he, hb, Option.map_some, Option.getD_some, if_true]
        cases hop : o.op <;> first | (exact absurd hop (hd _)) | rfl
  rw [key]
theorem ap_value {m : Machine} {fr : Frame} {s : Sem Next} {v : Value} {w' : World} (ha : Applies P m fr cl s w) (hs : s.run P w = .ok (.value v) w') : step P m = .next (lone (fr.finish v) cl w') :=
  ha _ _ _ (by simp [stepG.apply, hs])
theorem ap_skip {m : Machine} {fr : Frame} {s : Sem Next} {w' : World} (ha : Applies P m fr cl s w) (hs : s.run P w = .ok .skip w') : step P m = .next (lone (fr.finish undef) cl w') :=
  ha _ _ _ (by simp [stepG.apply, hs])
theorem ap_defer {m : Machine} {fr : Frame} {s : Sem Next} {d : Deferred} {w' : World} (ha : Applies P m fr cl s w) (hs : s.run P w = .ok (.defer d) w') : step P m = .next (lone ({ fr with defers := d :: fr.defers }.finish undef) cl w') :=
  ha _ _ _ (by simp [stepG.apply, hs])
theorem ap_panic {m : Machine} {fr : Frame} {s : Sem Next} {v : Value} {w' : World} (ha : Applies P m fr cl s w) (hs : s.run P w = .halt (.panic v) w') : step P m = .next (lone (fr.raise [{ v, recovered := false }]) cl w') :=
  ha _ _ _ (by simp [stepG.apply, hs])
def Frame.head (fr : Frame) : Prop := match fr.todo with
  | .call .. :: _ | .extern .. :: _ => False
  | _ => True
theorem ap_enter {m : Machine} {fr : Frame} {s : Sem Next} {f : FuncId} {args : Array Value} {w' : World} (ha : Applies P m fr cl s w) (hh : Frame.head fr) (hs : s.run P w = .ok (.enter f args) w') :
    step P m = .next (lone (Frame.enter P f args .normal) (fr :: cl) w') :=
  ha _ _ _ (by
    obtain ⟨fn, tmps, todo, defers, mode, kind, ro⟩ := fr
    cases todo with
    | nil => simp [stepG.apply, hs]
    | cons x k => cases x <;> first | exact hh.elim | simp [stepG.apply, hs])
theorem ap_round {m : Machine} {fr : Frame} {s : Sem Next} {l : Nat} {f : FuncId} {t : Array Value} {x y : Code} {w' : World} (ha : Applies P m fr cl s w) (hs : s.run P w = .ok (.round l f t x y) w') :
    step P m = .next (lone (Frame.round l f t x y .normal) (fr :: cl) w') :=
  ha _ _ _ (by simp [stepG.apply, hs])
end steps
end Go.Eng
end
section
namespace Go.Eng
variable {P : Program} {cs : Nat → Option CSite} {φ ψ : Phi} {h : H} {w : World} {T : Tab} {tm : Go.Eng.T} {ρ : Operand → Value}
inductive DR (φ : Phi) : ADef → Deferred → Prop
  | call {f g n l args} {first cap as : List Value} (hf : f.view = .fn g n l) (h1 : VRL φ (l.take n) first) (h2 : VRL φ (l.drop n) cap) (h3 : VRL φ args as) :
      DR φ (.call f args) { target := .fn (.func g) cap.toArray, args := (first ++ as).toArray }
  | mark {b cb} (hb : φ b = some cb) : DR φ (.mark b) { target := .collected cb.blk, args := #[] }
inductive DRL (φ : Phi) : List ADef → List Deferred → Prop
  | nil : DRL φ [] []
  | cons {a d as ds} (h : DR φ a d) (hs : DRL φ as ds) : DRL φ (a :: as) (d :: ds)
theorem DR.mono (hle : φ.le ψ) {a d} (hd : DR φ a d) : DR ψ a d := by
  cases hd with
  | call hf h1 h2 h3 => exact .call hf (h1.mono hle) (h2.mono hle) (h3.mono hle)
  | mark hb => exact .mark (hle _ _ hb)
theorem DRL.mono (hle : φ.le ψ) {a d} (hd : DRL φ a d) : DRL ψ a d := by
  induction hd with
  | nil => exact .nil
  | cons h _ ih => exact .cons (h.mono hle) ih
theorem GL.mono (hle : φ.le ψ) (hg : GL φ T) : GL ψ T := fun g b hb => let ⟨cb, h1, h2, h3⟩ := hg g b hb; ⟨cb, hle _ _ h1, h2, h3⟩
def recOf (κ : CallKind) (cl : List Frame) : Option (Value × List Frame) := tryRecover { fn := 0, tmps := #[], todo := [], defers := [], mode := .run, kind := κ } cl
theorem tryRecover_eq (fr : Frame) (cl : List Frame) : tryRecover fr cl = recOf fr.kind cl := by
  unfold recOf
  cases hk : fr.kind <;> cases cl <;> simp [tryRecover, hk]
inductive PN (φ : Phi) (b : Frame) (cl : List Frame) (p : V) : Prop
  | none (hp : p.tag = 0) (hr : b.roundOf = none) (hk : recOf b.kind cl = none)
  | live {fr rest c} (hp : p.tag = 13) (hr : b.roundOf = none) (hk : b.kind = .deferred) (hcl : cl = fr :: rest) (hm : fr.mode = .panicking [⟨c, false, false⟩]) (hv : VR φ p c)
  | round {cb} (hp : p.tag = 99) (hb : φ p.id = some cb) (hr : b.roundOf = some cb.blk)
inductive PT : V → V → List Frame → List Frame → Prop
  | same {p cl} : PT p p cl cl
  | took {p fr rest c} (hp : p.tag = 13) (hm : fr.mode = .panicking [⟨c, false, false⟩]) : PT p vUnk (fr :: rest) ({ fr with mode := .panicking [⟨c, true, false⟩] } :: rest)
theorem PT.trans {p q r : V} {a b c : List Frame} (x : PT p q a b) (y : PT q r b c) : PT p r a c := by
  cases x with
  | same => exact y
  | took hp hm =>
    cases y with
    | same => exact .took hp hm
    | took hp2 _ => simp [vUnk] at hp2
theorem PN.step {b : Frame} {cl cl' : List Frame} {p p' : V} (hle : φ.le ψ) (hn : PN φ b cl p) (ht : PT p p' cl cl') : PN ψ b cl' p' := by
  cases ht with
  | same =>
    cases hn with
    | none hp hr hk => exact .none hp hr hk
    | live hp hr hk hcl hm hv => exact .live hp hr hk hcl hm (hv.mono hle)
    | round hp hb hr => exact .round hp (hle _ _ hb) hr
  | took hp hm =>
    cases hn with
    | none hp2 => omega
    | live _ hr hk _ _ _ => exact .none rfl hr (by rw [hk]; simp [recOf, tryRecover])
    | round hp2 => omega
structure FR (cs : Nat → Option CSite) (T : Tab) (N : Nat) (b : Frame) (φ : Phi) (h : H) (w : World) (tm : Go.Eng.T) (df : List ADef) (a : Act) (cl : List Frame) : Prop where
  hr : HR cs φ h w
  tr : TR φ N tm a.tmps
  dr : DRL φ df a.defers
  pn : PN φ b cl h.pn
  gl : GL φ T
theorem FR.ev {N b df a cl} (hf : FR cs T N b φ h w tm df a cl) : EvOK φ T tm a.eval := ⟨hf.tr.get, fun _ => rfl, fun _ => rfl, fun _ => rfl, hf.gl⟩
theorem TR.put {N : Nat} {tmps : Array Value} (ht : TR φ N tm tmps) (hle : φ.le ψ) {d : Option Nat} (hd : ∀ x, d = some x → x < N) {v : V} {c : Value} (hv : VR ψ v c) (df : List Deferred) :
    TR ψ N (putD tm d v) (Act.put { tmps, defers := df } d c).tmps := by
  cases d with
  | none => exact ht.mono hle
  | some d =>
    have hdN := hd d rfl
    refine ⟨by simp [Act.put]; exact ht.size, fun i => ?_⟩
    simp only [putD, Act.put]
    rw [T.get_set]
    by_cases hi : i = d
    · subst hi
      rw [if_pos rfl]
      split
      · have : i < tmps.size := Nat.lt_of_lt_of_le hdN ht.size
        simpa [this] using hv
      · exact .unk view_unk
    · rw [if_neg hi]
      have := (ht.get i).mono hle
      have h2 : (tmps.setIfInBounds d c).getD i undef = tmps.getD i undef := by
        simp [Array.getD_eq_getD_getElem?, Array.getElem?_setIfInBounds_ne (Ne.symm hi)]
      rw [h2]
      exact this
def cGuard (ops : List Oper) : Option (Nat × Bool) → Option (Option (Nat × Bool))
  | none => some none
  | some (j, b) => match (ops[j]?).bind (·.dst) with
    | some d => some (some (d, b))
    | none => none
def cOper (T : Tab) (N : Nat) (ops : List Oper) (o : Oper) : Option IOper := match cOp T o.op, cGuard ops o.guard with
  | some op, some g => match o.dst with
    | none => some { dst := none, op, g }
    | some d => if d < N then some { dst := some d, op, g } else none
  | _, _ => none
theorem cOper_inv {N : Nat} {ops : List Oper} {o : Oper} {io : IOper} (hc : cOper T N ops o = some io) : cOp T o.op = some io.op ∧ cGuard ops o.guard = some io.g ∧ io.dst = o.dst ∧ ∀ x, o.dst = some x → x < N := by
  unfold cOper at hc
  split at hc
  · rename_i op g h1 h2
    split at hc
    · rename_i hd; cases hc; exact ⟨h1, h2, hd.symm, fun x hx => by rw [hd] at hx; cases hx⟩
    · rename_i d hd
      split at hc
      · rename_i hlt; cases hc; exact ⟨h1, h2, hd.symm, fun x hx => by rw [hd] at hx; cases hx; exact hlt⟩
      · cases hc
  · cases hc
theorem wanted_ok {N : Nat} {ops : Array Oper} {o : Oper} {g : Option (Nat × Bool)} {tmps : Array Value} (ht : TR φ N tm tmps) (hg : cGuard ops.toList o.guard = some g) {r : Bool} (hw : wanted tm g = some r) :
    Region.wanted o (yielded ops tmps) = r := by
  unfold Region.wanted
  cases ho : o.guard with
  | none => rw [ho] at hg; simp only [cGuard] at hg; cases hg; simp only [wanted] at hw; cases hw; rfl
  | some p =>
    obtain ⟨j, b⟩ := p
    rw [ho] at hg
    simp only [cGuard] at hg
    split at hg
    · rename_i d hd
      cases hg
      simp only [wanted] at hw
      split at hw
      · rename_i c hv
        cases hw
        have := (ht.get d).bool_inv hv
        have hd' : (ops[j]?).bind (·.dst) = some d := by simpa using hd
        have hget : tmps[d]? = some (.bool c) := by
          rw [Array.getD_eq_getD_getElem?] at this
          cases h2 : tmps[d]? with
          | none => rw [h2] at this; simp [undef] at this
          | some x => rw [h2] at this; simpa using this
        simp [yielded, hd', hget]
      · rename_i hv
        cases hw
        have := (ht.get d).undef_inv hv
        have hd' : (ops[j]?).bind (·.dst) = some d := by simpa using hd
        rw [Array.getD_eq_getD_getElem?] at this
        cases h2 : tmps[d]? with
        | none => simp [yielded, hd', h2]
        | some x =>
          rw [h2] at this
          have hx : x = Go.undef := by simpa using this
          subst hx
          simp [yielded, hd', h2, Go.undef]
      · cases hw
    · cases hg
def CallOK (P : Program) (cs : Nat → Option CSite) (T : Tab) (call : Cl) : Prop :=
  ∀ {φ : Phi} {h : H} {w : World} {f : V} {args : List V} {d : Value} {as : List Value}, HR cs φ h w → GL φ T → h.pn.tag = 0 → VR φ f d → VRL φ args as →
    ∀ {m : Machine} {fr : Frame} {cl : List Frame}, Frame.head fr → Applies P m fr cl (do let x ← Deferred.ofValue d as.toArray; invoke x.target x.args) w →
    match call f args h with
    | .ok v h' => ∃ c w' ψ, Steps P m (lone (fr.finish c) cl w') ∧ HR cs ψ h' w' ∧ Ext φ h w ψ h' w' ∧ VR ψ v c
    | .pan v h' => ∃ c w' ψ, Steps P m (lone (fr.raise [⟨c, false, false⟩]) cl w') ∧ HR cs ψ h' w' ∧ Ext φ h w ψ h' w' ∧ VR ψ v c ∧ v.tag = 13
    | .fail => True
def ExtOK (P : Program) (T : Tab) : Prop := ∀ {f e : Nat}, T.ext f = some e → ∀ {cs : Nat → Option CSite} {φ : Phi} {h : H} {w : World} {args : List V} {as : List Value}, HR cs φ h w → VRL φ args as →
  match extA e args h with
  | .ok v h' => h' = h ∧ ∃ c, (callFunc f as.toArray).run P w = .ok (.value c) w ∧ VR φ v c
  | .pan _ _ => False
  | .fail => True
def OpTo (P : Program) (cs : Nat → Option CSite) (T : Tab) (N : Nat) (b : Frame) (dst : Option Nat) (ops : Array Oper) (i : Nat) (rest : List Nat) (k : List Item) (m : Machine) (φ : Phi) (h : H) (w : World) (tm : Go.Eng.T) (a : Act) (cl : List Frame) : OpOut → Prop
  | .val v df' h' => ∃ a' cl' w' ψ, Steps P m (lone (frA b a' (.inRegion ops rest :: k)) cl' w') ∧ FR cs T N b ψ h' w' (putD tm dst v) df' a' cl' ∧ Ext φ h w ψ h' w' ∧ PT h.pn h'.pn cl cl'
  | .pan v df' h' => ∃ c w' ψ a', Steps P m (lone { frA b a' (.inRegion ops (i :: rest) :: k) with mode := .panicking [⟨c, false, false⟩] } cl w') ∧ FR cs T N b ψ h' w' tm df' a' cl ∧ Ext φ h w ψ h' w' ∧ VR ψ v c ∧ v.tag = 13 ∧ h'.pn = h.pn
  | .fail => True
end Go.Eng
end
section
namespace Go.Eng
variable {P : Program} {cs : Nat → Option CSite} {φ ψ : Phi} {h : H} {w : World} {T : Tab} {tm : Go.Eng.T} {ρ : Operand → Value}
theorem cBuiltin_call {b : Builtin} {ts : List TypeId} {args : List IX} {c : Cal} {l : List IX} : cBuiltin T b ts args ≠ some (.call c l) := by
  intro hc
  unfold cBuiltin at hc
  (repeat' split at hc) <;> first | (cases hc; done) | (simp [Option.map_eq_some_iff] at hc; done) | skip
theorem cBuiltin_defer {b : Builtin} {ts : List TypeId} {args : List IX} {x : IX} {l : List IX} : cBuiltin T b ts args ≠ some (.defer x l) := by
  intro hc
  unfold cBuiltin at hc
  (repeat' split at hc) <;> first | (cases hc; done) | (simp [Option.map_eq_some_iff] at hc; done) | skip
theorem cOp_call {op : Op} {cal : Cal} {args : List IX} (hc : cOp T op = some (.call cal args)) : ∃ c x, op = .call c ∧ oMap (cX T) c.args.toList = some args ∧ c.callee = .value x ∧
    (match cal with
      | .fn f => x = .func f
      | .dyn y => cX T x = some y
      | .ext e => ∃ f, x = .func f ∧ T.ext f = some e) := by
  cases op with
  | call c =>
    simp only [cOp] at hc
    split at hc
    · rename_i as ha
      split at hc
      · rename_i f hcl
        split at hc
        · rename_i e he
          cases hc
          exact ⟨c, _, rfl, ha, hcl, f, rfl, he⟩
        · cases hc
          exact ⟨c, _, rfl, ha, hcl, rfl⟩
      · rename_i x hne hcl
        cases hx : cX T x with
        | none => rw [hx] at hc; cases hc
        | some X => rw [hx] at hc; cases hc; exact ⟨c, x, rfl, ha, hcl, hx⟩
      · exact absurd hc cBuiltin_call
      · cases hc
    · cases hc
  | makeFunc f a c =>
    cases f <;> simp only [cOp] at hc <;> (repeat' split at hc) <;> first | (cases hc; done) | skip
  | makeMap t r =>
    cases r <;> simp only [cOp] at hc <;> first | (cases hc; done) | skip
  | _ =>
    simp only [cOp] at hc
    first
      | (cases hc; done)
      | ((repeat' split at hc) <;> first | (cases hc; done) | (simp [Option.map_eq_some_iff] at hc; done))
theorem cOp_defer {op : Op} {x : IX} {args : List IX} (hc : cOp T op = some (.defer x args)) : ∃ c y, op = .defer c ∧ oMap (cX T) c.args.toList = some args ∧ c.callee = .value y ∧ cX T y = some x := by
  cases op with
  | defer c =>
    simp only [cOp] at hc
    split at hc
    · rename_i f hcl
      split at hc
      · rename_i X L h1 h2
        cases hc
        exact ⟨c, f, rfl, h2, hcl, h1⟩
      · cases hc
    · cases hc
  | call c =>
    simp only [cOp] at hc
    split at hc
    · split at hc
      · split at hc <;> cases hc
      · rename_i x _ _
        cases hx : cX T x with
        | none => rw [hx] at hc; cases hc
        | some X => rw [hx] at hc; cases hc
      · exact absurd hc cBuiltin_defer
      · cases hc
    · cases hc
  | makeFunc f a c =>
    cases f <;> simp only [cOp] at hc <;> (repeat' split at hc) <;> first | (cases hc; done) | skip
  | makeMap t r =>
    cases r <;> simp only [cOp] at hc <;> first | (cases hc; done) | skip
  | _ =>
    simp only [cOp] at hc
    first
      | (cases hc; done)
      | ((repeat' split at hc) <;> first | (cases hc; done) | (simp [Option.map_eq_some_iff] at hc; done))
theorem cBuiltin_recover {b : Builtin} {ts : List TypeId} {args : List IX} (hc : cBuiltin T b ts args = some .recover) : b = .recover := by
  unfold cBuiltin at hc
  (repeat' split at hc) <;> first | rfl | (cases hc; done) | (simp [Option.map_eq_some_iff] at hc; done) | skip
theorem cBuiltin_panic {b : Builtin} {ts : List TypeId} {args : List IX} {x : IX} (hc : cBuiltin T b ts args = some (.panic x)) : b = .panic ∧ args = [x] := by
  unfold cBuiltin at hc
  (repeat' split at hc) <;> first | (cases hc; done) | (simp [Option.map_eq_some_iff] at hc; done) | (cases hc; exact ⟨rfl, rfl⟩) | skip
theorem cOp_recover {op : Op} (hc : cOp T op = some .recover) : ∃ c, op = .call c ∧ c.callee = .builtin .recover := by
  cases op with
  | call c =>
    simp only [cOp] at hc
    split at hc
    · split at hc
      · split at hc <;> cases hc
      · rename_i x _ _
        cases hx : cX T x with
        | none => rw [hx] at hc; cases hc
        | some X => rw [hx] at hc; cases hc
      · rename_i b hb
        cases cBuiltin_recover hc
        exact ⟨c, rfl, hb⟩
      · cases hc
    · cases hc
  | makeFunc f a c =>
    cases f <;> simp only [cOp] at hc <;> (repeat' split at hc) <;> first | (cases hc; done) | skip
  | makeMap t r =>
    cases r <;> simp only [cOp] at hc <;> first | (cases hc; done) | skip
  | _ =>
    simp only [cOp] at hc
    first
      | (cases hc; done)
      | ((repeat' split at hc) <;> first | (cases hc; done) | (simp [Option.map_eq_some_iff] at hc; done))
theorem cOp_panic {op : Op} {x : IX} (hc : cOp T op = some (.panic x)) : (∃ y, op = .panic y ∧ cX T y = some x) ∨ ∃ c, op = .call c ∧ c.callee = .builtin .panic ∧ oMap (cX T) c.args.toList = some [x] := by
  cases op with
  | panic y =>
    simp only [cOp] at hc
    cases hx : cX T y with
    | none => rw [hx] at hc; cases hc
    | some X => rw [hx] at hc; cases hc; exact .inl ⟨y, rfl, hx⟩
  | call c =>
    simp only [cOp] at hc
    split at hc
    · rename_i as ha
      split at hc
      · split at hc <;> cases hc
      · rename_i x _ _
        cases hx : cX T x with
        | none => rw [hx] at hc; cases hc
        | some X => rw [hx] at hc; cases hc
      · rename_i b hb
        obtain ⟨rfl, rfl⟩ := cBuiltin_panic hc
        exact .inr ⟨c, rfl, hb, ha⟩
      · cases hc
    · cases hc
  | makeFunc f a c =>
    cases f <;> simp only [cOp] at hc <;> (repeat' split at hc) <;> first | (cases hc; done) | skip
  | makeMap t r =>
    cases r <;> simp only [cOp] at hc <;> first | (cases hc; done) | skip
  | _ =>
    simp only [cOp] at hc
    first
      | (cases hc; done)
      | ((repeat' split at hc) <;> first | (cases hc; done) | (simp [Option.map_eq_some_iff] at hc; done))
end Go.Eng
end
section
namespace Go.Eng
variable {P : Program} {cs : Nat → Option CSite} {φ ψ : Phi} {h : H} {w : World} {T : Tab} {tm : Go.Eng.T} {ρ : Operand → Value}
theorem opX_plain {call : Cl} {df : List ADef} {op : IOp} (hp : op.plain = true) : opX call tm df h op = match opA tm h op with
    | .val v h => .val v df h
    | .fail => .fail := by
  cases op <;> first | rfl | (cases hp; done)
theorem tag_iface {v : V} {t : Nat} {x : V} (hv : v.view = .iface t x) : v.tag = 13 := by
  unfold V.view at hv
  split at hv <;> first | assumption | (cases hv; done)
theorem frA_head (b : Frame) (a : Act) (ops : Array Oper) (l : List Nat) (k : List Item) : Frame.head (frA b a (.inRegion ops l :: k)) := trivial
theorem raise_frA (b : Frame) (a : Act) (todo : List Item) (vs : List PanicEntry) : (frA b a todo).raise vs = { frA b a todo with mode := .panicking vs } := rfl
theorem FR.put {N : Nat} {b : Frame} {df : List ADef} {a : Act} {cl cl' : List Frame} (hf : FR cs T N b φ h w tm df a cl) {w' : World} {h' : H} {ψ : Phi} (hr : HR cs ψ h' w') (he : Ext φ h w ψ h' w') (hp : PT h.pn h'.pn cl cl')
    {dst : Option Nat} (hd : ∀ x, dst = some x → x < N) {v : V} {c : Value} (hv : VR ψ v c) : FR cs T N b ψ h' w' (putD tm dst v) df (a.put dst c) cl' where
  hr := hr
  tr := hf.tr.put he.le hd hv a.defers
  dr := by cases dst <;> exact hf.dr.mono he.le
  pn := hf.pn.step he.le hp
  gl := hf.gl.mono he.le
theorem opX_ok (hT : TabOK P T) (hE : ExtOK P T) {call : Cl} (hC : CallOK P cs T call) {N : Nat} {b : Frame} {df : List ADef} {a : Act} {cl : List Frame} (hf : FR cs T N b φ h w tm df a cl) {ops : Array Oper} {i : Nat} {rest : List Nat} {k : List Item} {o : Oper} {io : IOper}
    (ho : ops[i]? = some o) (hio : cOper T N ops.toList o = some io) (hw : Region.wanted o (yielded ops a.tmps) = true) :
    OpTo P cs T N b o.dst ops i rest k (lone (frA b a (.inRegion ops (i :: rest) :: k)) cl w) φ h w tm a cl (opX call tm df h io.op) := by
  obtain ⟨hc, _, _, hdN⟩ := cOper_inv hio
  have hfin : ∀ (a : Act) (c : Value), (frA b a (.inRegion ops (i :: rest) :: k)).finish c = frA b (a.put o.dst c) (.inRegion ops rest :: k) := fun a c => by
    rw [finish_frA, ho]; rfl
  have hdgen : (∀ x l, io.op ≠ .defer x l) → b.roundOf = none ∨ ∀ c, o.op ≠ .defer c := by
    intro hne
    right
    intro c e
    rw [e] at hc
    simp only [cOp] at hc
    split at hc
    · split at hc
      · exact absurd (Option.some.inj hc).symm (hne _ _)
      · cases hc
    · cases hc
  by_cases hp : io.op.plain = true
  · rw [opX_plain hp]
    cases hop : opA tm h io.op with
    | fail => trivial
    | val v h' =>
      obtain ⟨nx, c, w', hrun, hnx, ψ, hr', hext, hv⟩ := ok_op hf.hr hT hf.ev hc hp hop
      have hap := st_op (P := P) (b := b) (a := a) (k := k) (cl := cl) (w := w) (rest := rest) ho hw (hdgen fun x l e => by rw [e] at hp; cases hp)
      have hpn := opA_pn hop
      have hstep : step P (lone (frA b a (.inRegion ops (i :: rest) :: k)) cl w) = .next (lone (frA b (a.put o.dst c) (.inRegion ops rest :: k)) cl w') := by
        rw [← hfin]
        rcases hnx with rfl | ⟨rfl, rfl⟩
        · exact ap_value hap hrun
        · exact ap_skip hap hrun
      exact ⟨a.put o.dst c, cl, w', ψ, .one hstep, hf.put hr' hext (by rw [hpn]; exact .same) hdN hv, hext, by rw [hpn]; exact .same⟩
  · cases hop : io.op <;> first | (rw [hop] at hp; exact absurd rfl hp) | skip
    ·
      rename_i cal args
      rw [hop] at hc
      obtain ⟨cc, x, hco, hargs, hcl, hcal⟩ := cOp_call hc
      have hvs := cXs_ok hf.ev hargs
      have hap := st_op (P := P) (b := b) (a := a) (k := k) (cl := cl) (w := w) (rest := rest) ho hw (.inr fun c e => by rw [hco] at e; cases e)
      have hex : execOp a.eval o = (do let d ← Deferred.ofValue (a.eval x) (cc.args.map a.eval); invoke d.target d.args) := by
        simp only [execOp, hco, resolve, hcl]
      have harr : cc.args.map a.eval = (cc.args.toList.map a.eval).toArray := by apply Array.ext'; simp
      rw [hex, harr] at hap
      have main : ∀ {f : V}, VR φ f (a.eval x) → OpTo P cs T N b o.dst ops i rest k (lone (frA b a (.inRegion ops (i :: rest) :: k)) cl w) φ h w tm a cl (ofCall df (quietly call f (args.map (ev tm)) h)) := by
        intro f hfv
        have := hC (h := h.setPn vUnk) (hf.hr.setPn _) hf.gl rfl hfv hvs (frA_head _ _ _ _ _) hap
        unfold quietly
        cases hres : call f (args.map (ev tm)) (h.setPn vUnk) with
        | fail => trivial
        | ok v h2 =>
          rw [hres] at this
          obtain ⟨c, w', ψ, hst, hr', hext, hv⟩ := this
          rw [hfin] at hst
          have hext' : Ext φ h w ψ (h2.setPn h.pn) w' := ((Ext.setPn vUnk).trans hext).trans (Ext.setPn _)
          exact ⟨_, cl, w', ψ, hst, hf.put (hr'.setPn _) hext' .same hdN hv, hext', .same⟩
        | pan v h2 =>
          rw [hres] at this
          obtain ⟨c, w', ψ, hst, hr', hext, hv, htag⟩ := this
          rw [raise_frA] at hst
          have hext' : Ext φ h w ψ (h2.setPn h.pn) w' := ((Ext.setPn vUnk).trans hext).trans (Ext.setPn _)
          exact ⟨c, w', ψ, a, hst, ⟨hr'.setPn _, hf.tr.mono hext'.le, hf.dr.mono hext'.le, hf.pn.step hext'.le .same, hf.gl.mono hext'.le⟩, hext', hv, htag, rfl⟩
      cases cal with
      | fn f =>
        simp only at hcal
        subst hcal
        exact main (mkFunc_run (f := f) (first := []) (cap := []) .nil .nil)
      | dyn y => exact main (cX_ok hf.ev hcal)
      | ext e =>
        obtain ⟨f, rfl, hfe⟩ := hcal
        have := hE hfe hf.hr hvs
        show OpTo P cs T N b o.dst ops i rest k _ φ h w tm a cl (ofCall df (extA e (args.map (ev tm)) h))
        cases hres : extA e (args.map (ev tm)) h with
        | fail => trivial
        | pan v h2 => rw [hres] at this; exact this.elim
        | ok v h2 =>
          rw [hres] at this
          obtain ⟨rfl, c, hrun, hv⟩ := this
          have hrun2 : (do let d ← Deferred.ofValue (a.eval (.func f)) (cc.args.toList.map a.eval).toArray; invoke d.target d.args : Sem Next).run P w = .ok (.value c) w := by
            simp only [Act.eval, Deferred.ofValue, invoke, Sem.run_bind, Sem.run_pure, Result.andThen]
            have e1 : (#[] : Array Value) ++ (cc.args.toList.map a.eval).toArray = (cc.args.toList.map a.eval).toArray := by simp
            have e2 : (cc.args.toList.map a.eval).toArray ++ (#[] : Array Value) = (cc.args.toList.map a.eval).toArray := by simp
            rw [e1, e2]
            exact hrun
          have hst := ap_value hap hrun2
          rw [hfin] at hst
          exact ⟨_, cl, w, φ, .one hst, hf.put hf.hr (.refl _ _ _) .same hdN hv, .refl _ _ _, .same⟩
    ·
      rw [hop] at hc
      obtain ⟨cc, hco, hcl⟩ := cOp_recover hc
      have hap := st_op (P := P) (b := b) (a := a) (k := k) (cl := cl) (w := w) (rest := rest) ho hw (.inr fun c e => by rw [hco] at e; cases e)
      have hrun : (execOp a.eval o).run P w = .ok .recover w := by
        simp only [execOp, hco, resolve, hcl]
        rfl
      simp only [opX]
      split
      · rename_i htag
        cases hf.pn with
        | live hp2 => omega
        | round hp2 => omega
        | none _ hro hk =>
          have hst : step P (lone (frA b a (.inRegion ops (i :: rest) :: k)) cl w) = .next (lone ((frA b a (.inRegion ops (i :: rest) :: k)).finish .nilIface) cl w) := hap _ _ _ (by
            have h1 : (frA b a (.inRegion ops (i :: rest) :: k)).roundOf = none := hro
            have h2 : tryRecover (frA b a (.inRegion ops (i :: rest) :: k)) cl = none := by rw [tryRecover_eq]; exact hk
            simp [stepG.apply, hrun, h1, h2])
          rw [hfin] at hst
          exact ⟨_, cl, w, φ, .one hst, hf.put hf.hr (.refl _ _ _) .same hdN (.nili view_nili), .refl _ _ _, .same⟩
      · rename_i htag
        cases hf.pn with
        | none hp2 => omega
        | round hp2 => omega
        | live hp2 hro hk hcl2 hm hv =>
          rename_i fr rest2 c
          subst hcl2
          have hst : step P (lone (frA b a (.inRegion ops (i :: rest) :: k)) (fr :: rest2) w) =
              .next (lone ((frA b a (.inRegion ops (i :: rest) :: k)).finish c) ({ fr with mode := .panicking [⟨c, true, false⟩] } :: rest2) w) := hap _ _ _ (by
            have h1 : (frA b a (.inRegion ops (i :: rest) :: k)).roundOf = none := hro
            have h2 : tryRecover (frA b a (.inRegion ops (i :: rest) :: k)) (fr :: rest2) = some (c, { fr with mode := .panicking [⟨c, true, false⟩] } :: rest2) := by
              rw [tryRecover_eq]
              show recOf b.kind _ = _
              rw [hk]
              simp [recOf, tryRecover, hm]
            simp [stepG.apply, hrun, h1, h2])
          rw [hfin] at hst
          exact ⟨_, _, w, φ, .one hst, hf.put (h' := h.setPn vUnk) (hf.hr.setPn _) (Ext.setPn _) (.took htag hm) hdN hv, Ext.setPn _, .took htag hm⟩
      · trivial
    ·
      rename_i x l
      rw [hop] at hc
      obtain ⟨cc, y, hco, hargs, hcl, hy⟩ := cOp_defer hc
      simp only [opX]
      split
      · trivial
      · rename_i htag
        have hro : b.roundOf = none := by
          cases hf.pn with
          | none _ hr => exact hr
          | live _ hr => exact hr
          | round hp2 => exact absurd hp2 htag
        split
        · rename_i g n vs hview
          have hap := st_op (P := P) (b := b) (a := a) (k := k) (cl := cl) (w := w) (rest := rest) ho hw (.inl hro)
          have hvs := cXs_ok hf.ev hargs
          obtain ⟨first, cap, hfn, h1, h2⟩ := (cX_ok hf.ev hy).fn_inv hview
          have harr : cc.args.map a.eval = (cc.args.toList.map a.eval).toArray := by apply Array.ext'; simp
          have hrun : (execOp a.eval o).run P w = .ok (.defer { target := .fn (.func g) cap, args := first ++ cc.args.map a.eval }) w := by
            simp [execOp, hco, resolve, hcl, hfn, Deferred.ofValue]
          have hst := ap_defer hap hrun
          have hfin2 := hfin { a with defers := { target := .fn (.func g) cap, args := first ++ cc.args.map a.eval } :: a.defers } undef
          have heq : ({ frA b a (.inRegion ops (i :: rest) :: k) with defers := { target := .fn (.func g) cap, args := first ++ cc.args.map a.eval } :: (frA b a (.inRegion ops (i :: rest) :: k)).defers } : Frame) =
            frA b { a with defers := { target := .fn (.func g) cap, args := first ++ cc.args.map a.eval } :: a.defers } (.inRegion ops (i :: rest) :: k) := rfl
          rw [heq, hfin2] at hst
          have hdr : DR φ (.call (vFn g n vs) (l.map (ev tm))) { target := .fn (.func g) cap, args := first ++ cc.args.map a.eval } := by
            have := DR.call (φ := φ) (f := vFn g n vs) (g := g) (n := n) (l := vs) (view_fn _ _ _) h1 h2 hvs
            rw [harr]
            have e1 : (first.toList ++ cc.args.toList.map a.eval).toArray = first ++ (cc.args.toList.map a.eval).toArray := by apply Array.ext'; simp
            rw [e1] at this
            simpa using this
          refine ⟨_, cl, w, φ, .one hst, ?_, .refl _ _ _, .same⟩
          have hbase : FR cs T N b φ h w tm (.call (vFn g n vs) (l.map (ev tm)) :: df) { a with defers := { target := .fn (.func g) cap, args := first ++ cc.args.map a.eval } :: a.defers } cl :=
            ⟨hf.hr, hf.tr, .cons hdr hf.dr, hf.pn, hf.gl⟩
          exact hbase.put hf.hr (.refl _ _ _) .same hdN (.unk view_unk)
        · trivial
    ·
      rename_i x
      rw [hop] at hc
      simp only [opX]
      split
      · rename_i t v hview
        have hpc := cOp_panic hc
        have hnd : ∀ c, o.op ≠ .defer c := by
          rcases hpc with ⟨y, e, _⟩ | ⟨c, e, _⟩ <;> (intro c' e'; rw [e] at e'; cases e')
        have hap := st_op (P := P) (b := b) (a := a) (k := k) (cl := cl) (w := w) (rest := rest) ho hw (.inr hnd)
        have hval : ∃ c, VR φ (ev tm x) c ∧ execOp a.eval o = (do pure (.value (← Instr.panic c))) := by
          rcases hpc with ⟨y, e, hy⟩ | ⟨c, e, hcl, hy⟩
          · exact ⟨a.eval y, cX_ok hf.ev hy, by simp only [execOp, e]⟩
          · have hvs := cXs_ok hf.ev hy
            cases hl : c.args.toList with
            | nil => rw [hl] at hvs; cases hvs
            | cons y l =>
              rw [hl] at hvs
              cases hvs with
              | cons hv hn =>
                refine ⟨a.eval y, hv, ?_⟩
                have harr : c.args.map a.eval = ((y :: l).map a.eval).toArray := by apply Array.ext'; simp [hl]
                simp only [execOp, e, resolve, hcl]
                rw [harr]
                rfl
        obtain ⟨c, hcv, hex⟩ := hval
        obtain ⟨c', rfl, hv'⟩ := hcv.iface_inv hview
        have hrun : (execOp a.eval o).run P w = .halt (.panic (.iface t c')) w := by
          rw [hex]
          rfl
        have hst := ap_panic hap hrun
        rw [raise_frA] at hst
        refine ⟨.iface t c', w, φ, a, .one hst, hf, .refl _ _ _, .iface (view_iface _ _) hv', ?_, rfl⟩
        exact tag_iface (view_iface t v)
      · trivial
    ·
      trivial
end Go.Eng
end
section
namespace Go.Eng
variable {P : Program} {cs : Nat → Option CSite} {φ ψ : Phi} {h : H} {w : World} {T : Tab} {tm : Go.Eng.T} {ρ : Operand → Value}
def OutTo (P : Program) (cs : Nat → Option CSite) (T : Tab) (N : Nat) (b : Frame) (k : List Item) (m : Machine) (φ : Phi) (h : H) (w : World) (cl : List Frame) : Out → Prop
  | .nrm tm' df' h' => ∃ a' cl' w' ψ, Steps P m (lone (frA b a' k) cl' w') ∧ FR cs T N b ψ h' w' tm' df' a' cl' ∧ Ext φ h w ψ h' w' ∧ PT h.pn h'.pn cl cl'
  | .ext id tm' df' h' => ∃ a' cl' w' ψ k0, exitTo id k0 = exitTo id k ∧ Steps P m (lone (frA b a' (.code (.exit id) :: k0)) cl' w') ∧ FR cs T N b ψ h' w' tm' df' a' cl' ∧ Ext φ h w ψ h' w' ∧ PT h.pn h'.pn cl cl'
  | .ret tm' df' h' => ∃ a' cl' w' ψ k0, Steps P m (lone (frA b a' (.code .ret :: k0)) cl' w') ∧ FR cs T N b ψ h' w' tm' df' a' cl' ∧ Ext φ h w ψ h' w' ∧ PT h.pn h'.pn cl cl'
  | .pan v tm' df' h' => ∃ a' cl' w' ψ k0 c, Steps P m (lone { frA b a' k0 with mode := .panicking [⟨c, false, false⟩] } cl' w') ∧ FR cs T N b ψ h' w' tm' df' a' cl' ∧ Ext φ h w ψ h' w' ∧ PT h.pn h'.pn cl cl' ∧ VR ψ v c ∧ v.tag = 13
  | .fail => True
theorem OutTo.of {N : Nat} {b : Frame} {k k1 : List Item} {m m1 : Machine} {h1 : H} {w1 : World} {cl cl1 : List Frame} {o : Out} (hs : Steps P m m1) (he : Ext φ h w ψ h1 w1) (hp : PT h.pn h1.pn cl cl1)
    (hk : ∀ id, exitTo id k1 = exitTo id k) (hn : (∃ t d g, o = .nrm t d g) → k1 = k) (ho : OutTo P cs T N b k1 m1 ψ h1 w1 cl1 o) : OutTo P cs T N b k m φ h w cl o := by
  cases o with
  | nrm t d g =>
    obtain ⟨a', cl', w', χ, q1, q2, q3, q4⟩ := ho
    rw [hn ⟨_, _, _, rfl⟩] at q1
    exact ⟨a', cl', w', χ, hs.trans q1, q2, he.trans q3, hp.trans q4⟩
  | ext id t d g =>
    obtain ⟨a', cl', w', χ, k0, q0, q1, q2, q3, q4⟩ := ho
    exact ⟨a', cl', w', χ, k0, q0.trans (hk id), hs.trans q1, q2, he.trans q3, hp.trans q4⟩
  | ret t d g =>
    obtain ⟨a', cl', w', χ, k0, q1, q2, q3, q4⟩ := ho
    exact ⟨a', cl', w', χ, k0, hs.trans q1, q2, he.trans q3, hp.trans q4⟩
  | pan v t d g =>
    obtain ⟨a', cl', w', χ, k0, c, q1, q2, q3, q4, q5, q6⟩ := ho
    exact ⟨a', cl', w', χ, k0, c, hs.trans q1, q2, he.trans q3, hp.trans q4, q5, q6⟩
  | fail => trivial
theorem OutTo.head {N : Nat} {b : Frame} {k : List Item} {m m1 : Machine} {cl : List Frame} {o : Out} (hs : step P m = .next m1) (ho : OutTo P cs T N b k m1 φ h w cl o) : OutTo P cs T N b k m φ h w cl o :=
  OutTo.of (.one hs) (.refl _ _ _) .same (fun _ => rfl) (fun _ => rfl) ho
theorem runOps_ok (hT : TabOK P T) (hE : ExtOK P T) {call : Cl} (hC : CallOK P cs T call) {N : Nat} {b : Frame} {ops : Array Oper} {k : List Item} : ∀ (l : List Oper) (ios : List IOper) (i : Nat) {φ : Phi} {h : H} {w : World} {tm : Go.Eng.T} {df : List ADef} {a : Act} {cl : List Frame},
    (∀ j, l[j]? = ops[i + j]?) → oMap (cOper T N ops.toList) l = some ios → FR cs T N b φ h w tm df a cl →
    OutTo P cs T N b k (lone (frA b a (.inRegion ops (List.range' i l.length) :: k)) cl w) φ h w cl (runOps call ios tm df h)
  | [], ios, i, φ, h, w, tm, df, a, cl, _, hm, hf => by
    simp only [oMap] at hm
    cases hm
    exact ⟨a, cl, w, φ, .one st_region_end, hf, .refl _ _ _, .same⟩
  | o :: l, ios, i, φ, h, w, tm, df, a, cl, hl, hm, hf => by
    simp only [oMap] at hm
    split at hm
    · rename_i io ios' hio hm'
      cases hm
      have ho : ops[i]? = some o := by have := hl 0; simpa using this.symm
      have hl' : ∀ j, l[j]? = ops[i + 1 + j]? := fun j => by
        have := hl (j + 1)
        rw [show i + 1 + j = i + (j + 1) by omega]
        simpa using this
      obtain ⟨_, hg, hdst, hdN⟩ := cOper_inv hio
      have hrange : List.range' i (o :: l).length = i :: List.range' (i + 1) l.length := by simp [List.range'_succ]
      rw [hrange]
      simp only [runOps]
      cases hwn : wanted tm io.g with
      | none => trivial
      | some r =>
        have hw := wanted_ok hf.tr hg hwn
        cases r with
        | true =>
          simp only
          have := opX_ok (k := k) (rest := List.range' (i + 1) l.length) hT hE hC hf ho hio hw
          cases hop : opX call tm df h io.op with
          | fail => trivial
          | val v df' h' =>
            rw [hop] at this
            obtain ⟨a', cl', w', χ, q1, q2, q3, q4⟩ := this
            rw [hdst]
            exact OutTo.of q1 q3 q4 (fun _ => rfl) (fun _ => rfl) (runOps_ok hT hE hC l ios' (i + 1) hl' hm' q2)
          | pan v df' h' =>
            rw [hop] at this
            obtain ⟨c, w', χ, a', q1, q2, q3, q4, q5, q6⟩ := this
            exact ⟨a', cl, w', χ, _, c, q1, q2, q3, by rw [q6]; exact .same, q4, q5⟩
        | false =>
          simp only
          have hst := st_op_skip (P := P) (b := b) (a := a) (k := k) (cl := cl) (w := w) (ops := ops) (i := i) (rest := List.range' (i + 1) l.length) (by rw [ho]; simpa using hw)
          have hd : (ops[i]?).bind (·.dst) = o.dst := by rw [ho]; rfl
          rw [hd] at hst
          rw [hdst]
          exact OutTo.head hst (runOps_ok hT hE hC l ios' (i + 1) hl' hm' (hf.put hf.hr (.refl _ _ _) .same hdN (.undef view_undef)))
    · cases hm
def ambShape : Code → Bool
  | .seq _ (.block _ (.loop (.seq (.region _ _ false) _))) => true
  | _ => false
def CodeOK (P : Program) (T : Tab) (N : Nat) (cs : Nat → Option CSite) (fn : FuncId) (D : Array Oper → List IOper → Prop) : Code → IC → Prop
  | _, .bad => True
  | .skip, .skip => True
  | .label _, .skip => True
  | .region _ ops false, .reg ios => oMap (cOper T N ops.toList) ops.toList = some ios
  | .region _ ops true, .dreg ios => D ops ios
  | .seq a b, .seq x y => CodeOK P T N cs fn D a x ∧ CodeOK P T N cs fn D b y
  | .seq a b, .amb id dst it ops p A X Y => CodeOK P T N cs fn D a (.seq p A) ∧ CodeOK P T N cs fn D b Y ∧ ambShape a = true ∧ A = .block id (.loop (.seq (.reg (⟨some dst, .next (.t it), none, 0, 0⟩ :: ops)) X))
  | .cond c a b, .cond x y z => cX T c = some x ∧ CodeOK P T N cs fn D a y ∧ CodeOK P T N cs fn D b z
  | .block id b, .block id' y => id' = id ∧ CodeOK P T N cs fn D b y
  | .loop b, .loop y => CodeOK P T N cs fn D b y
  | .scope b, y => CodeOK P T N cs fn D b y
  | .rangeFunc f ps a b, .rf site x => cX T f = some x ∧ cs site = some ⟨fn, N, ps, a, b⟩
  | .exit id, .exit id' => id' = id
  | .ret, .ret => True
  | _, _ => False
end Go.Eng
end
section
namespace Go.Eng
variable {P : Program} {cs : Nat → Option CSite} {φ ψ : Phi} {h : H} {w : World} {T : Tab} {tm : Go.Eng.T} {ρ : Operand → Value}
mutual
theorem VR.back (hle : φ.le ψ) : ∀ {v c c0}, VR ψ v c → VR φ v c0 → VR φ v c
  | _, _, _, .unk h, _ => .unk h
  | _, _, _, .int h hn, _ => .int h hn
  | _, _, _, .bool h, _ => .bool h
  | _, _, _, .str h hs hx, _ => .str h hs hx
  | _, _, _, .nilp h, _ => .nilp h
  | _, _, _, .ptr h hb, h0 => by
    obtain ⟨cb, hb', rfl⟩ := h0.ptr_inv h
    have := hle _ _ hb'
    rw [hb] at this
    cases this
    exact .ptr h hb'
  | _, _, _, .nils h, _ => .nils h
  | _, _, _, .sl h hb hl hc hx ha, h0 => by
    obtain ⟨cb, oc, cap', hb', rfl, _⟩ := h0.sl_inv h
    have := hle _ _ hb'
    rw [hb] at this
    cases this
    exact .sl h hb' hl hc hx ha
  | _, _, _, .nilm h, _ => .nilm h
  | _, _, _, .mp h hb, h0 => by
    obtain ⟨cb, hb', rfl⟩ := h0.mp_inv h
    have := hle _ _ hb'
    rw [hb] at this
    cases this
    exact .mp h hb'
  | _, _, _, .fn h h1 h2, h0 => by
    obtain ⟨first, cap, rfl, g1, g2⟩ := h0.fn_inv h
    exact .fn h (h1.back hle g1) (h2.back hle g2)
  | _, _, _, .yld h hb, h0 => by
    obtain ⟨cb, hb', rfl⟩ := h0.yld_inv h
    have := hle _ _ hb'
    rw [hb] at this
    cases this
    exact .yld h hb'
  | _, _, _, .nilf h, _ => .nilf h
  | _, _, _, .iface h hx, h0 => by
    obtain ⟨c', rfl, g⟩ := h0.iface_inv h
    exact .iface h (hx.back hle g)
  | _, _, _, .nili h, _ => .nili h
  | _, _, _, .agg h hl, h0 => by
    obtain ⟨cs, rfl, g⟩ := h0.agg_inv h
    exact .agg h (hl.back hle g)
  | _, _, _, .tup h hl, h0 => by
    obtain ⟨cs, rfl, g⟩ := h0.tup_inv h
    exact .tup h (hl.back hle g)
  | _, _, _, .undef h, _ => .undef h
theorem VRL.back (hle : φ.le ψ) : ∀ {v c c0}, VRL ψ v c → VRL φ v c0 → VRL φ v c
  | _, _, _, .nil, _ => .nil
  | _, _, _, .cons h hs, .cons g gs => .cons (h.back hle g) (hs.back hle gs)
end
theorem VR.flat_any {v : V} {c : Value} (hf : v.flatV = true) (h : VR ψ v c) : VR φ v c := by
  cases h with
  | int hv hn => exact .int hv hn
  | bool hv => exact .bool hv
  | str hv hs hx => exact .str hv hs hx
  | unk hv => simp [V.flatV, hv] at hf
  | nilp hv => simp [V.flatV, hv] at hf
  | ptr hv _ => simp [V.flatV, hv] at hf
  | nils hv => simp [V.flatV, hv] at hf
  | sl hv _ _ _ _ _ => simp [V.flatV, hv] at hf
  | nilm hv => simp [V.flatV, hv] at hf
  | mp hv _ => simp [V.flatV, hv] at hf
  | fn hv _ _ => simp [V.flatV, hv] at hf
  | yld hv _ => simp [V.flatV, hv] at hf
  | nilf hv => simp [V.flatV, hv] at hf
  | iface hv _ => simp [V.flatV, hv] at hf
  | nili hv => simp [V.flatV, hv] at hf
  | agg hv _ => simp [V.flatV, hv] at hf
  | tup hv _ => simp [V.flatV, hv] at hf
  | undef hv => simp [V.flatV, hv] at hf
theorem VRL.flat_any : ∀ {l : List V} {cs : List Value}, l.all V.flatV = true → VRL ψ l cs → VRL φ l cs
  | _, _, _, .nil => .nil
  | _, _, hf, .cons h hs => by
    simp only [List.all_cons, Bool.and_eq_true] at hf
    exact .cons (h.flat_any hf.1) (hs.flat_any hf.2)
theorem VR.plain_any {v : V} {c : Value} (hf : v.plainV = true) (h : VR ψ v c) : VR φ v c := by
  unfold V.plainV at hf
  rw [Bool.or_eq_true] at hf
  rcases hf with hf | hf
  · exact h.flat_any hf
  · cases hv : v.view <;> rw [hv] at hf <;> first | (cases hf; done) | skip
    rename_i l
    obtain ⟨cs, rfl, g⟩ := h.agg_inv hv
    exact .agg hv (g.flat_any hf)
theorem ERL.plain_any : ∀ {es : List E} {ces : List MapEntry}, (es.all fun e => e.key.plainV && e.val.plainV) = true → ERL ψ es ces → ERL φ es ces
  | _, _, _, .nil => .nil
  | _, _, hf, .cons h hs => by
    simp only [List.all_cons, Bool.and_eq_true] at hf
    exact .cons ⟨h.key.plain_any hf.1.1, h.val.plain_any hf.1.2, h.born⟩ (hs.plain_any hf.2)
theorem esBeq_eq : ∀ (x y : List E), esBeq x y = true → x = y
  | [], [], _ => rfl
  | x :: xs, y :: ys, h => by
    obtain ⟨xk, xv, xb⟩ := x
    obtain ⟨yk, yv, yb⟩ := y
    simp only [esBeq, Bool.and_eq_true] at h
    obtain ⟨⟨⟨h1, h2⟩, h3⟩, h4⟩ := h
    rw [vBeq_eq _ _ h1, vBeq_eq _ _ h2, Nat.eq_of_beq_eq_true h3, esBeq_eq _ _ h4]
  | [], _ :: _, h => by simp [esBeq] at h
  | _ :: _, [], h => by simp [esBeq] at h
theorem blk_frost (h : H) (b mb i : Id) : (frost h b mb).blk i = frz h.next (liveA h b mb) i (h.blk i) := N5.at_mapI _ _ _
theorem frost_tab {b mb i : Id} (hi : i.nat < h.next) (h1 : liveA h b mb i = false) : ((frost h b mb).blk i).view.isTab = true := by
  rw [blk_frost]
  unfold frz
  rw [if_pos ⟨hi, h1⟩]
  cases hv : (h.blk i).view <;> simp [BView.isTab, hv]
theorem frost_dead {b mb i : Id} (hd : ((frost h b mb).blk i).view.isDead = false) : (h.blk i).view.isDead = false := by
  rw [blk_frost] at hd
  unfold frz at hd
  split at hd
  · cases hv : (h.blk i).view <;> rw [hv] at hd <;> first | rfl | (simp [BView.isDead, hv] at hd; done)
  · exact hd
theorem HR.frost (hr : HR cs φ h w) (b mb : Id) : HR cs φ (frost h b mb) w where
  fresh := hr.fresh
  blks i cb hi := by
    have hB := hr.blks i cb hi
    rw [blk_frost]
    unfold frz
    split
    · cases hv : (h.blk i).view with
      | cells n c e fz x =>
        simp only [bview_tab]
        rw [hv] at hB
        obtain ⟨cells, lo, hi', h1, h2, h3, h4, _⟩ := hB
        exact ⟨cells, _, _, h1, by rw [h2]; exact h3, h4⟩
      | tab n c e =>
        simp only [hv]
        rw [hv] at hB
        exact hB
      | _ => trivial
    · exact hB
  inj b1 b2 c1 c2 h1 h2 d1 d2 hc := hr.inj b1 b2 c1 c2 h1 h2 (frost_dead d1) (frost_dead d2) hc
  next := hr.next
  free i hi := by
    have hi' : h.next ≤ i.nat := hi
    rw [blk_frost]
    unfold frz
    rw [if_neg (fun ⟨g, _⟩ => absurd g (by omega))]
    exact hr.free _ hi'
theorem blk_done (h : H) {b mb : Id} (hne : b ≠ mb) (hmc : (h.blk mb).view.isCells = false) (hbc : (h.blk b).view.isCells = false) (es : List E) (clk : Nat) (i : Id) :
    (doneA h b mb es clk).blk i = if i = mb then bMap es clk else if liveA h b mb i = true then bDead else h.blk i := by
  unfold doneA
  by_cases hi : i = mb
  · subst hi
    split <;> rw [H.blk_put, if_pos rfl, if_pos rfl]
  · rw [if_neg hi]
    by_cases hib : i = b
    · subst hib
      have hl : liveA h i mb i = true := by unfold liveA; simp
      rw [if_pos hl]
      split <;> rw [H.blk_put, if_neg hi, H.blk_put, if_pos rfl]
    · have hl : liveA h b mb i = (i == .of (b.nat - 1) && (h.blk i).view.isCells) := by
        unfold liveA
        rw [show (i == b) = false by simpa using hib, show (i == mb) = false by simpa using hi]
        rfl
      rw [hl]
      by_cases hib1 : i = .of (b.nat - 1)
      · subst hib1
        cases hc : (h.blk (.of (b.nat - 1))).view.isCells with
        | true => simp [H.blk_put, hi, hib]
        | false => simp [H.blk_put, hi, hib]
      · have e1 : (i == Id.of (b.nat - 1)) = false := by simpa using hib1
        rw [e1]
        split <;> simp [H.blk_put, hi, hib, hib1]
theorem next_done (h : H) (b mb : Id) (es : List E) (clk : Nat) : (doneA h b mb es clk).next = h.next := by
  unfold doneA; split <;> rfl
theorem pn_done (h : H) (b mb : Id) (es : List E) (clk : Nat) : (doneA h b mb es clk).pn = h.pn := by
  unfold doneA; split <;> rfl
theorem merge_ok {h1 : H} {w1 : World} {b mb : Id} {cb cbm : CB} (hr : HR cs φ h w) (_hb : φ b = some cb) (hmb : φ mb = some cbm) {m : V} {since : Nat} {seen : List Nat} (hv : (h.blk b).view = .iter m since seen)
    {es0 : List E} {clk0 : Nat} (hvm : (h.blk mb).view = .map es0 clk0) (hr1 : HR cs ψ h1 w1) (he : Ext φ (frost h b mb) w ψ h1 w1) {es : List E} {clk : Nat} (hm : mapAt h1 mb = some (es, clk)) :
    HR cs φ (doneA h b mb es clk) w1 ∧ Ext φ h w φ (doneA h b mb es clk) w1 := by
  have hne : b ≠ mb := by
    intro e
    rw [e, hvm] at hv
    cases hv
  have hblk := blk_done h hne (by rw [hvm]; rfl) (by rw [hv]; rfl) es clk
  have hlive : ∀ i, liveA h b mb i = true → (h.blk i).view.isDead = false ∧ (h.blk i).view.isTab = false := by
    intro i hi
    unfold liveA at hi
    simp only [Bool.or_eq_true, Bool.and_eq_true, beq_iff_eq] at hi
    rcases hi with (hi | hi) | ⟨_, hi⟩
    · subst hi; rw [hv]; exact ⟨rfl, rfl⟩
    · subst hi; rw [hvm]; exact ⟨rfl, rfl⟩
    · cases hc : (h.blk i).view <;> rw [hc] at hi <;> first | exact ⟨rfl, rfl⟩ | cases hi
  have hlmb : liveA h b mb mb = true := by unfold liveA; simp
  have hstay : ∀ i ci, φ i = some ci → liveA h b mb i = false → (h.blk i).view.isDead = false → w1.heap[ci.blk]? = w.heap[ci.blk]? := by
    intro i ci hi g1 hd
    have hlt := (hr.blks i ci hi).lt hd
    refine (he.frame ci.blk hlt fun j cj hj hc => ?_).1
    refine frost_tab (hr.fresh _ _ hj) ?_
    cases hlj : liveA h b mb j with
    | false => rfl
    | true =>
      have := hr.inj i j ci cj hi hj hd (hlive j hlj).1 hc.symm
      rw [this, hlj] at g1
      cases g1
  have hpn := next_done h b mb es clk
  refine ⟨⟨fun i ci hi => by rw [hpn]; exact hr.fresh _ _ hi, fun i ci hi => ?_, fun b1 b2 c1 c2 k1 k2 d1 d2 hc => ?_, by rw [hpn]; exact hr.next, fun i hi => ?_⟩,
    ⟨Phi.le_refl _, he.size, fun i hi => ?_, fun B hB hn => ?_, he.os, he.output, he.tape, by rw [hpn]; exact Nat.le_refl _, fun _ _ g => g⟩⟩
  · rw [hblk]
    by_cases e2 : i = mb
    · rw [if_pos e2]
      subst e2
      rw [hmb] at hi
      cases hi
      unfold mapAt at hm
      split at hm
      · rename_i es' clk' hv1
        split at hm
        · rename_i hpl
          cases hm
          have hB := hr1.blks _ _ (he.le _ _ hmb)
          rw [hv1] at hB
          obtain ⟨ces, q1, q2⟩ := hB
          rw [bview_map]
          exact ⟨ces, q1, q2.plain_any hpl⟩
        · cases hm
      · cases hm
    · rw [if_neg e2]
      split
      · trivial
      · rename_i hl
        have hB := hr.blks i ci hi
        by_cases hd : (h.blk i).view.isDead = true
        · cases hv' : (h.blk i).view <;> rw [hv'] at hd <;> first | trivial | (simp [BView.isDead] at hd)
        · exact hB.congr (hstay i ci hi (by simpa using hl) (by simpa using hd))
  · have key : ∀ j, ((doneA h b mb es clk).blk j).view.isDead = false → (h.blk j).view.isDead = false := by
      intro j hj
      rw [hblk] at hj
      by_cases e2 : j = mb
      · rw [e2, hvm]; rfl
      · rw [if_neg e2] at hj
        split at hj
        · cases hj
        · exact hj
    exact hr.inj b1 b2 c1 c2 k1 k2 (key _ d1) (key _ d2) hc
  · rw [hpn] at hi
    rw [hblk]
    split
    · rw [bview_map]; rfl
    · split
      · rfl
      · exact hr.free _ hi
  · rw [hblk]
    have g2 : i ≠ mb := fun e => by rw [e, hvm] at hi; cases hi
    rw [if_neg g2, if_neg]
    intro hl
    rw [(hlive i hl).2] at hi
    cases hi
  · refine ⟨(he.frame B hB fun j cj hj hc => ?_).1, fun _ _ g _ => g⟩
    have ht := hn j cj hj hc
    refine frost_tab (hr.fresh _ _ hj) ?_
    cases hl : liveA h b mb j with
    | false => rfl
    | true => rw [(hlive j hl).2] at ht; cases ht
theorem keep_get (l : List Lf) : ∀ (t : Go.Eng.T) (i : Nat), (l.foldl (fun t x => t.zip keepV x.tm) t).get i = vUnk ∨ ((l.foldl (fun t x => t.zip keepV x.tm) t).get i = t.get i ∧ ∀ x ∈ l, x.tm.get i = t.get i) := by
  induction l with
  | nil => intro t i; exact .inr ⟨rfl, fun _ hx => by cases hx⟩
  | cons y l ih =>
    intro t i
    simp only [List.foldl_cons]
    have hz : (t.zip keepV y.tm).get i = vUnk ∨ ((t.zip keepV y.tm).get i = t.get i ∧ y.tm.get i = t.get i) := by
      rw [T.get_zip]
      split
      · unfold keepV
        split
        · rename_i hb
          exact .inr ⟨rfl, (vBeq_eq _ _ hb).symm⟩
        · exact .inl rfl
      · exact .inl rfl
    rcases ih (t.zip keepV y.tm) i with h1 | ⟨h1, h2⟩
    · exact .inl h1
    · rcases hz with hz | ⟨hz1, hz2⟩
      · left; rw [h1, hz]
      · right
        refine ⟨h1.trans hz1, fun x hx => ?_⟩
        cases hx with
        | head => exact hz2
        | tail _ hx => rw [h2 x hx, hz1]
theorem lfOf_inv {o : Out} {x : Lf} (h : lfOf o = some x) : o = (match x.kind with
    | none => .nrm x.tm [] x.h
    | some id => .ext id x.tm [] x.h) := by
  unfold lfOf at h
  split at h <;> first | (cases h; rfl) | (cases h; done)
theorem lfsOf_mem : ∀ {os : List Out} {l : List Lf}, lfsOf os = some l → ∀ o ∈ os, ∃ x ∈ l, lfOf o = some x
  | [], _, _, o, ho => by cases ho
  | o1 :: os, l, h, o, ho => by
    simp only [lfsOf] at h
    split at h
    · rename_i x l' h1 h2
      cases h
      cases ho with
      | head => exact ⟨x, List.mem_cons_self .., h1⟩
      | tail _ ho =>
        obtain ⟨y, hy, hl⟩ := lfsOf_mem h2 o ho
        exact ⟨y, List.mem_cons_of_mem _ hy, hl⟩
    · cases h
theorem PT.same_tag {p q : V} {a b : List Frame} (h : PT p q a b) (ht : q.tag = p.tag) : q = p ∧ b = a := by
  cases h with
  | same => exact ⟨rfl, rfl⟩
  | took hp _ =>
    exfalso
    rw [hp] at ht
    exact absurd ht (by decide)
theorem mergeA_ok {N : Nat} {b0 : Frame} {k : List Item} {m : Machine} {a : Act} {cl : List Frame} (hf : FR cs T N b0 φ h w tm [] a cl) {b mb : Id} {cb cbm : CB} (hb : φ b = some cb) (hmb : φ mb = some cbm)
    {mv : V} {since : Nat} {seen : List Nat} (hv : (h.blk b).view = .iter mv since seen) {es0 : List E} {clk0 : Nat} (hvm : (h.blk mb).view = .map es0 clk0) {outs : List Out} {o : Out} (ho : o ∈ outs)
    (hO : OutTo P cs T N b0 k m φ (frost h b mb) w cl o) : OutTo P cs T N b0 k m φ h w cl (mergeA tm h b mb outs) := by
  unfold mergeA
  split
  · rename_i x xs hl
    split
    · rename_i es clk hm
      split
      · rename_i hall
        obtain ⟨y, hy, hyo⟩ := lfsOf_mem hl o ho
        have hag := List.all_eq_true.1 hall y hy
        unfold Lf.agree at hag
        simp only [Bool.and_eq_true, beq_iff_eq] at hag
        obtain ⟨⟨hk, hpn⟩, hmp⟩ := hag
        have hmy : mapAt y.h mb = some (es, clk) := by
          split at hmp
          · rename_i es' clk' he'
            simp only [Bool.and_eq_true, beq_iff_eq] at hmp
            rw [he', esBeq_eq _ _ hmp.1, hmp.2]
          · cases hmp
        have htm : ∀ {ψ : Phi} {a' : Act} {w1 : World}, φ.le ψ → TR ψ N y.tm a'.tmps → TR φ N ((x :: xs).foldl (fun t x => t.zip keepV x.tm) tm) a'.tmps := by
          intro ψ a' _ hle ht
          refine ⟨ht.size, fun i => ?_⟩
          rcases keep_get (x :: xs) tm i with h1 | ⟨h1, h2⟩
          · rw [h1]; exact .unk view_unk
          · rw [h1]
            have := ht.get i
            rw [h2 y hy] at this
            exact this.back hle (hf.tr.get i)
        have hinv := lfOf_inv hyo
        rw [hk] at hinv
        cases hxk : x.kind with
        | none =>
          rw [hxk] at hinv
          simp only at hinv ⊢
          subst hinv
          obtain ⟨a', cl', w1, ψ, q1, q2, q3, q4⟩ := hO
          obtain ⟨hp1, rfl⟩ := q4.same_tag hpn
          obtain ⟨g1, g2⟩ := merge_ok hf.hr hb hmb hv hvm q2.hr q3 hmy
          refine ⟨a', cl', w1, φ, q1, ⟨g1, htm (w1 := w1) q3.le q2.tr, ?_, by rw [pn_done]; exact hf.pn, hf.gl⟩, g2, by rw [pn_done]; exact .same⟩
          have := q2.dr
          cases hd : a'.defers with
          | nil => exact .nil
          | cons => rw [hd] at this; cases this
        | some id =>
          rw [hxk] at hinv
          simp only at hinv ⊢
          subst hinv
          obtain ⟨a', cl', w1, ψ, k0, q0, q1, q2, q3, q4⟩ := hO
          obtain ⟨hp1, rfl⟩ := q4.same_tag hpn
          obtain ⟨g1, g2⟩ := merge_ok hf.hr hb hmb hv hvm q2.hr q3 hmy
          refine ⟨a', cl', w1, φ, k0, q0, q1, ⟨g1, htm (w1 := w1) q3.le q2.tr, ?_, by rw [pn_done]; exact hf.pn, hf.gl⟩, g2, by rw [pn_done]; exact .same⟩
          have := q2.dr
          cases hd : a'.defers with
          | nil => exact .nil
          | cons => rw [hd] at this; cases this
      · trivial
    · trivial
  · trivial
end Go.Eng
end
section
namespace Go.Eng
variable {P : Program} {cs : Nat → Option CSite} {φ ψ : Phi} {h : H} {w : World} {T : Tab} {tm : Go.Eng.T} {ρ : Operand → Value}
theorem cBuiltin_next {b : Builtin} {ts : List TypeId} {args : List IX} {x : IX} : cBuiltin T b ts args ≠ some (.next x) := by
  intro hc
  unfold cBuiltin at hc
  (repeat' split at hc) <;> first | (cases hc; done) | (simp [Option.map_eq_some_iff] at hc; done) | skip
theorem cX_t {x : Operand} {i : Nat} (h : cX T x = some (.t i)) : x = .tmp i := by
  cases x with
  | tmp t => simp only [cX] at h; cases h; rfl
  | const v =>
    simp only [cX] at h
    cases hv : cV 20 v with
    | none => rw [hv] at h; cases h
    | some y => rw [hv] at h; cases h
  | global g =>
    simp only [cX] at h
    cases hv : T.gl g with
    | none => rw [hv] at h; cases h
    | some y => rw [hv] at h; cases h
  | func f => simp only [cX] at h; cases h
theorem cOp_next {op : Op} {i : Nat} (hc : cOp T op = some (.next (.t i))) : op = .next (.tmp i) false := by
  cases op with
  | next x s =>
    simp only [cOp] at hc
    cases s with
    | true => simp at hc
    | false =>
      cases hx : cX T x with
      | none => rw [hx] at hc; simp at hc
      | some X =>
        rw [hx] at hc
        simp at hc
        subst hc
        rw [cX_t hx]
  | call c =>
    simp only [cOp] at hc
    split at hc
    · split at hc
      · split at hc <;> cases hc
      · rename_i x _ _
        cases hx : cX T x with
        | none => rw [hx] at hc; cases hc
        | some X => rw [hx] at hc; cases hc
      · exact absurd hc cBuiltin_next
      · cases hc
    · cases hc
  | makeFunc f a c =>
    cases f <;> simp only [cOp] at hc <;> (repeat' split at hc) <;> first | (cases hc; done) | skip
  | makeMap t r =>
    cases r <;> simp only [cOp] at hc <;> first | (cases hc; done) | skip
  | _ =>
    simp only [cOp] at hc
    first
      | (cases hc; done)
      | ((repeat' split at hc) <;> first | (cases hc; done) | (simp [Option.map_eq_some_iff] at hc; done))
theorem cGuard_none {ops : List Oper} {g : Option (Nat × Bool)} (h : cGuard ops g = some none) : g = none := by
  cases g with
  | none => rfl
  | some p =>
    obtain ⟨j, b⟩ := p
    simp only [cGuard] at h
    split at h <;> cases h
theorem oMap_cons {α β : Type} {f : α → Option β} {l : List α} {b : β} {r : List β} (h : oMap f l = some (b :: r)) : ∃ a t, l = a :: t ∧ f a = some b ∧ oMap f t = some r := by
  cases l with
  | nil => simp only [oMap] at h; cases h
  | cons a t =>
    simp only [oMap] at h
    split at h
    · rename_i x y h1 h2
      cases h
      exact ⟨a, t, rfl, h1, h2⟩
    · cases h
theorem exitTo_code (id : Nat) (c : Code) (k : List Item) : exitTo id (.code c :: k) = exitTo id k := rfl
theorem exitTo_loop (id : Nat) (c : Code) (k : List Item) : exitTo id (.inLoop c :: k) = exitTo id k := rfl
theorem exitTo_scope (id : Nat) (c : Code) (k : List Item) : exitTo id (.inScope c :: k) = exitTo id k := rfl
def RunsTo (P : Program) (cs : Nat → Option CSite) (T : Tab) (N : Nat) (fn : FuncId) (c : Code) (run : Go.Eng.T → List ADef → H → Out) : Prop :=
  ∀ {b : Frame} {k : List Item} {φ : Phi} {h : H} {w : World} {tm : Go.Eng.T} {df : List ADef} {a : Act} {cl : List Frame}, b.fn = fn → FR cs T N b φ h w tm df a cl →
    OutTo P cs T N b k (lone (frA b a (.code c :: k)) cl w) φ h w cl (run tm df h)
theorem leaves_ok (hT : TabOK P T) (hE : ExtOK P T) {call : Cl} (hC : CallOK P cs T call) {N : Nat} {fn : FuncId} {id dst it rid : Nat} {rops : Array Oper} {x y : Code} {ops : List IOper} {X Y : Go.Eng.T → List ADef → H → Out}
    (hX : RunsTo P cs T N fn x X) (hY : RunsTo P cs T N fn y Y) (hr : oMap (cOper T N rops.toList) rops.toList = some (⟨some dst, .next (.t it), none, 0, 0⟩ :: ops)) {b : Frame} {k : List Item} (hbf : b.fn = fn) :
    ∀ (n : Nat) {φ : Phi} {h : H} {w : World} {tm : Go.Eng.T} {df : List ADef} {a : Act} {cl : List Frame}, FR cs T N b φ h w tm df a cl →
    ∃ o ∈ leavesA (fun tm df h => match runOps call ops tm df h with
        | .nrm tm df h => X tm df h
        | o => o) Y id dst it n tm df h,
      OutTo P cs T N b k (lone (frA b a (.code (.seq (.region rid rops false) x) :: .inLoop (.seq (.region rid rops false) x) :: .inBlock id :: .code y :: k)) cl w) φ h w cl o := by
  obtain ⟨o0, tl, hl, ho0, htl⟩ := oMap_cons hr
  obtain ⟨hc0, hg0, hd0, hdN⟩ := cOper_inv ho0
  have hop := cOp_next hc0
  have hgu := cGuard_none hg0
  have hdst : o0.dst = some dst := hd0.symm
  have hlt : dst < N := hdN dst hdst
  have h0 : rops[0]? = some o0 := by rw [← Array.getElem?_toList, hl]; rfl
  have hrange : List.range rops.size = 0 :: List.range' 1 tl.length := by
    have : rops.size = tl.length + 1 := by rw [← Array.length_toList, hl]; rfl
    rw [this, List.range_eq_range', List.range'_succ]
  have htl' : ∀ j, tl[j]? = rops[1 + j]? := by
    intro j
    rw [← Array.getElem?_toList, hl, Nat.add_comm]
    simp
  generalize hK : Item.inLoop (.seq (.region rid rops false) x) :: .inBlock id :: .code y :: k = K
  have hexK : exitTo id K = some (.code y :: k) := by rw [← hK]; simp [exitTo]
  have hexO : ∀ i, i ≠ id → exitTo i K = exitTo i k := by
    intro i hi
    rw [← hK]
    have : (id == i) = false := by simp; exact fun e => hi e.symm
    simp [exitTo, this]
  intro n
  induction n with
  | zero => intros; exact ⟨.fail, List.mem_singleton_self _, trivial⟩
  | succ n ih =>
    intro φ h w tm df a cl hf
    simp only [leavesA]
    cases hwk : walkA h (tm.get it) with
    | none => exact ⟨.fail, List.mem_singleton_self _, trivial⟩
    | some kk =>
      simp only
      have hs1 : Steps P (lone (frA b a (.code (.seq (.region rid rops false) x) :: K)) cl w) (lone (frA b a (.inRegion rops (0 :: List.range' 1 tl.length) :: .code x :: K)) cl w) := by
        refine .head st_seq (.head st_region ?_)
        rw [hrange]
        exact .refl _ _
      have hw0 : Region.wanted o0 (yielded rops a.tmps) = true := by unfold Region.wanted; rw [hgu]
      have hap := st_op (P := P) (b := b) (a := a) (k := .code x :: K) (cl := cl) (w := w) (rest := List.range' 1 tl.length) h0 hw0 (.inr fun c e => by rw [hop] at e; cases e)
      have hex : execOp a.eval o0 = (do pure (.value (← Instr.next (a.eval (.tmp it)) false o0.type))) := by simp only [execOp, hop]
      have hit : VR φ (tm.get it) (a.eval (.tmp it)) := hf.ev.tmp it
      have hfin : ∀ (c : Value), (frA b a (.inRegion rops (0 :: List.range' 1 tl.length) :: .code x :: K)).finish c = frA b (a.put (some dst) c) (.inRegion rops (List.range' 1 tl.length) :: .code x :: K) := fun c => by
        rw [finish_frA, h0]
        simp only [Option.bind_some, hdst]
      have hbody : ∀ {φ : Phi} {h : H} {w : World} {tm : Go.Eng.T} {df : List ADef} {a : Act} {cl : List Frame}, FR cs T N b φ h w tm df a cl →
          OutTo P cs T N b K (lone (frA b a (.inRegion rops (List.range' 1 tl.length) :: .code x :: K)) cl w) φ h w cl (match runOps call ops tm df h with
            | .nrm tm df h => X tm df h
            | o => o) := by
        intro φ h w tm df a cl hf
        have h1 := runOps_ok hT hE hC (b := b) (k := .code x :: K) tl ops 1 htl' htl hf
        cases hro : runOps call ops tm df h with
        | nrm t d g =>
          rw [hro] at h1
          obtain ⟨a', cl', w', χ, q1, q2, q3, q4⟩ := h1
          exact OutTo.of q1 q3 q4 (fun _ => rfl) (fun _ => rfl) (hX hbf q2)
        | _ =>
          rw [hro] at h1
          exact OutTo.of (.refl _ _) (.refl _ _ _) .same (fun i => exitTo_code i x K) (fun ⟨_, _, _, e⟩ => by cases e) h1
      have hafter : ∀ {m : Machine} {φ : Phi} {h : H} {w : World} {cl : List Frame} {o : Out}, (∀ t d g, o ≠ .nrm t d g) → OutTo P cs T N b K m φ h w cl o → OutTo P cs T N b k m φ h w cl (afterA Y id o) := by
        intro m φ h w cl o hno hO
        cases o with
        | nrm t d g => exact absurd rfl (hno t d g)
        | ext i t d g =>
          obtain ⟨a', cl', w', χ, k0, q0, q1, q2, q3, q4⟩ := hO
          simp only [afterA]
          split
          · rename_i e
            subst e
            have : exitTo i k0 = some (.code y :: k) := by rw [q0, hexK]
            exact OutTo.of (q1.trans (.one (st_exit this))) q3 q4 (fun _ => rfl) (fun _ => rfl) (hY hbf q2)
          · rename_i e
            exact ⟨a', cl', w', χ, k0, by rw [q0, hexO i e], q1, q2, q3, q4⟩
        | ret t d g => exact hO
        | pan v t d g => exact hO
        | fail => trivial
      rcases next_gen (P := P) hf.hr hit hwk o0.type with ⟨hnil, hrun⟩ | ⟨e, he, ce, w1, hER, hrun, hr1, hx1⟩
      · rw [hnil]
        have hrun' : (execOp a.eval o0).run P w = .ok (.value (.tuple #[.bool false])) w := by rw [hex]; simp [hrun]
        have hst := ap_value hap hrun'
        rw [hfin] at hst
        have hf1 := hf.put hf.hr (.refl _ _ _) .same (dst := some dst) (fun z hz => by cases hz; exact hlt) over_ok
        refine ⟨_, List.mem_singleton_self _, ?_⟩
        have hb1 := hbody hf1
        have hpd : putD tm (some dst) overA = tm.set overA dst := rfl
        rw [hpd] at hb1
        have hb2 := OutTo.of (hs1.trans (.one hst)) (.refl _ _ _) .same (fun _ => rfl) (fun _ => rfl) hb1
        generalize (match runOps call ops (tm.set overA dst) df h with
            | .nrm tm df h => X tm df h
            | o => o) = o at hb2 ⊢
        cases o with
        | nrm => trivial
        | _ => exact hafter (fun _ _ _ e => by cases e) hb2
      · have hne : k.length ≥ 0 := Nat.zero_le _
        have hrun' : (execOp a.eval o0).run P w = .ok (.value (.tuple #[.bool true, ce.key, ce.val])) w1 := by rw [hex]; simp [hrun]
        have hst := ap_value hap hrun'
        rw [hfin] at hst
        have hf1 := hf.put hr1 hx1 .same (dst := some dst) (fun z hz => by cases hz; exact hlt) (tok_ok hER)
        have hpd : putD tm (some dst) (tokA e) = tm.set (tokA e) dst := rfl
        rw [hpd] at hf1
        have hb1 := hbody hf1
        have hb2 : OutTo P cs T N b K (lone (frA b a (.code (.seq (.region rid rops false) x) :: K)) cl w) φ h w cl _ := OutTo.of (hs1.trans (.one hst)) hx1 .same (fun _ => rfl) (fun _ => rfl) hb1
        have hmem : ∀ o, (∃ o1 ∈ (match (match runOps call ops (tm.set (tokA e) dst) df (kk.to e h) with
              | .nrm tm df h => X tm df h
              | o => o) with
            | .nrm tm df h => leavesA (fun tm df h => match runOps call ops tm df h with
                | .nrm tm df h => X tm df h
                | o => o) Y id dst it n tm df h
            | o => [afterA Y id o]), o1 = o) → o ∈ (match kk.l with
            | [] => [afterA Y id (match runOps call ops (tm.set overA dst) df h with
              | .nrm tm df h => X tm df h
              | o => o)]
            | l => l.flatMap fun e => match (match runOps call ops (tm.set (tokA e) dst) df (kk.to e h) with
                | .nrm tm df h => X tm df h
                | o => o) with
              | .nrm tm df h => leavesA (fun tm df h => match runOps call ops tm df h with
                | .nrm tm df h => X tm df h
                | o => o) Y id dst it n tm df h
              | o => [afterA Y id o]) := by
          rintro o ⟨o1, ho1, rfl⟩
          cases hkl : kk.l with
          | nil => rw [hkl] at he; cases he
          | cons e0 l0 =>
            simp only
            rw [List.mem_flatMap]
            exact ⟨e, by rw [← hkl]; exact he, ho1⟩
        generalize hrr : (match runOps call ops (tm.set (tokA e) dst) df (kk.to e h) with
              | .nrm tm df h => X tm df h
              | o => o) = o at hb2 hmem
        cases o with
        | nrm t d g =>
          obtain ⟨a', cl', w', χ, q1, q2, q3, q4⟩ := hb2
          obtain ⟨o1, ho1, hO1⟩ := ih q2
          refine ⟨o1, hmem o1 ⟨o1, ho1, rfl⟩, ?_⟩
          rw [← hK] at q1
          have hO2 := OutTo.of (q1.trans (.one st_inLoop)) q3 q4 (fun _ => rfl) (fun _ => rfl) (by rw [← hK] at hO1; exact hO1)
          rw [← hK]
          exact hO2
        | _ =>
          refine ⟨_, hmem _ ⟨_, List.mem_singleton_self _, rfl⟩, ?_⟩
          exact hafter (fun _ _ _ e => by cases e) hb2
theorem many_inv {it : V} {df : List ADef} {k : Wk} (h1 : manyA h it df = some k) : df = [] ∧ walkA h it = some k := by
  unfold manyA at h1
  split at h1
  · split at h1
    · rename_i k' hk
      split at h1
      · cases h1; exact ⟨rfl, hk⟩
      · cases h1
    · cases h1
  · cases h1
theorem amb_ok (hT : TabOK P T) (hE : ExtOK P T) {call : Cl} (hC : CallOK P cs T call) {N : Nat} {fn : FuncId} {id dst it rid : Nat} {rops : Array Oper} {x y : Code} {ops : List IOper} {X Y : Go.Eng.T → List ADef → H → Out}
    (hX : RunsTo P cs T N fn x X) (hY : RunsTo P cs T N fn y Y) (hr : oMap (cOper T N rops.toList) rops.toList = some (⟨some dst, .next (.t it), none, 0, 0⟩ :: ops)) {b : Frame} {k : List Item} (hbf : b.fn = fn)
    {df : List ADef} {a : Act} {cl : List Frame} (hf : FR cs T N b φ h w tm df a cl) {kk : Wk} (hk : manyA h (tm.get it) df = some kk) (n : Nat) :
    OutTo P cs T N b k (lone (frA b a (.code (.block id (.loop (.seq (.region rid rops false) x))) :: .code y :: k)) cl w) φ h w cl
      (mergeA tm h kk.b kk.mb (leavesA (fun tm df h => match runOps call ops tm df h with
        | .nrm tm df h => X tm df h
        | o => o) Y id dst it n tm [] (frost h kk.b kk.mb))) := by
  obtain ⟨rfl, hwk⟩ := many_inv hk
  obtain ⟨es, h1, h2, h3, h4, h5, h6⟩ := walk_inv hwk
  have hit : VR φ (tm.get it) (a.eval (.tmp it)) := hf.ev.tmp it
  obtain ⟨cb, hb, hc⟩ := hit.ptr_inv h1
  obtain ⟨hoff, om, arr, hi, hseen, hm⟩ := iter_blk hf.hr hb h2
  obtain ⟨cbm, hbm, hom⟩ := hm.mp_inv h3
  have hf' : FR cs T N b φ (frost h kk.b kk.mb) w tm [] a cl := ⟨hf.hr.frost _ _, hf.tr, hf.dr, hf.pn, hf.gl⟩
  obtain ⟨o, ho, hO⟩ := leaves_ok hT hE hC hX hY hr (k := k) hbf n hf'
  refine OutTo.head st_block (OutTo.head st_loop ?_)
  exact mergeA_ok hf hb hbm h2 h4 ho hO
end Go.Eng
end
section
namespace Go.Eng
variable {P : Program} {cs : Nat → Option CSite} {φ ψ : Phi} {h : H} {w : World} {T : Tab} {tm : Go.Eng.T} {ρ : Operand → Value}
def DrawOK (P : Program) (cs : Nat → Option CSite) (T : Tab) (N : Nat) (call : Cl) (D : Array Oper → List IOper → Prop) : Prop :=
  ∀ {ops : Array Oper} {ios : List IOper}, D ops ios → ∀ {id : Nat} {b : Frame} {k : List Item} {φ : Phi} {h : H} {w : World} {tm : Go.Eng.T} {df : List ADef} {a : Act} {cl : List Frame}, FR cs T N b φ h w tm df a cl →
    OutTo P cs T N b k (lone (frA b a (.code (.region id ops true) :: k)) cl w) φ h w cl (runDraw call ios ios [] 0 tm df h)
def RfOK (P : Program) (cs : Nat → Option CSite) (T : Tab) (call : Cl) : Prop :=
  ∀ {N : Nat} {fn : FuncId} {ps : Array Tmp} {x y : Code} {site : Nat}, cs site = some ⟨fn, N, ps, x, y⟩ → ∀ {b : Frame} {k : List Item} {φ : Phi} {h : H} {w : World} {tm : Go.Eng.T} {df : List ADef} {a : Act} {cl : List Frame} {f : Operand} {X : IX},
    b.fn = fn → FR cs T N b φ h w tm df a cl → cX T f = some X →
    OutTo P cs T N b k (lone (frA b a (.code (.rangeFunc f ps x y) :: k)) cl w) φ h w cl (rfA call site (ev tm X) tm df h)
theorem den_ok (hT : TabOK P T) (hE : ExtOK P T) {call : Cl} (hC : CallOK P cs T call) {N : Nat} {fn : FuncId} {D : Array Oper → List IOper → Prop} (hD : DrawOK P cs T N call D) (hRF : RfOK P cs T call) :
    ∀ (c : Code) (ic : IC), CodeOK P T N cs fn D c ic → ∀ {b : Frame} {k : List Item} {φ : Phi} {h : H} {w : World} {tm : Go.Eng.T} {df : List ADef} {a : Act} {cl : List Frame}, b.fn = fn → FR cs T N b φ h w tm df a cl →
    OutTo P cs T N b k (lone (frA b a (.code c :: k)) cl w) φ h w cl (den call ic tm df h) := by
  intro c
  induction hsz : SizeOf.sizeOf c using Nat.strongRecOn generalizing c with
  | ind sz ihs =>
  subst hsz
  cases c with
  | skip =>
    intro ic hc b k φ h w tm df a cl hb hf
    cases ic <;> first | trivial | exact hc.elim | exact ⟨a, cl, w, φ, .one st_skip, hf, .refl _ _ _, .same⟩
  | label l =>
    intro ic hc b k φ h w tm df a cl hb hf
    cases ic <;> first | trivial | exact hc.elim | exact ⟨a, cl, w, φ, .one st_label, hf, .refl _ _ _, .same⟩
  | region id ops draw =>
    intro ic hc b k φ h w tm df a cl hb hf
    cases draw with
    | false =>
      cases ic <;> first | trivial | exact hc.elim | skip
      rename_i ios
      have := runOps_ok hT hE hC (b := b) (k := k) ops.toList ios 0 (fun j => by simp) hc hf
      rw [← List.range_eq_range', Array.length_toList] at this
      exact OutTo.head st_region this
    | true =>
      cases ic <;> first | trivial | exact hc.elim | skip
      exact hD hc hf
  | seq x y =>
    have ihx := ihs (SizeOf.sizeOf x) (by simp only [Code.seq.sizeOf_spec]; omega) x rfl
    have ihy := ihs (SizeOf.sizeOf y) (by simp only [Code.seq.sizeOf_spec]; omega) y rfl
    intro ic hc b k φ h w tm df a cl hb hf
    cases ic <;> first | trivial | exact hc.elim | skip
    rotate_left
    ·
      rename_i id dst it ops p A X Y
      obtain ⟨hA, hY, hsh, hAe⟩ := hc
      unfold ambShape at hsh
      split at hsh
      · rename_i x0 a1 body rid rops x'
        obtain ⟨hp, hA⟩ := hA
        have ihp := ihs (SizeOf.sizeOf a1) (by simp only [Code.seq.sizeOf_spec]; omega) a1 rfl
        have ihB := ihs (SizeOf.sizeOf (Code.block body (.loop (.seq (.region rid rops false) x')))) (by simp only [Code.seq.sizeOf_spec, Code.block.sizeOf_spec, Code.loop.sizeOf_spec]; omega) _ rfl
        have ihx' := ihs (SizeOf.sizeOf x') (by simp only [Code.seq.sizeOf_spec, Code.block.sizeOf_spec, Code.loop.sizeOf_spec]; omega) x' rfl
        have h0 := ihp p hp (k := .code (.block body (.loop (.seq (.region rid rops false) x'))) :: .code y :: k) hb hf
        refine OutTo.head st_seq (OutTo.head st_seq ?_)
        simp only [den]
        cases hP : den call p tm df h with
        | nrm tm1 df1 h1 =>
          rw [hP] at h0
          obtain ⟨a0, cl0, w0, χ0, r1, r2, r3, r4⟩ := h0
          simp only
          refine OutTo.of r1 r3 r4 (fun _ => rfl) (fun _ => rfl) ?_
          cases hmn : manyA h1 (tm1.get it) df1 with
          | none =>
            simp only
            have h2 := ihB _ hA (k := .code y :: k) hb r2
            cases hX : den call A tm1 df1 h1 with
            | nrm t d g =>
              rw [hX] at h2
              obtain ⟨a', cl', w', χ, q1, q2, q3, q4⟩ := h2
              exact OutTo.of q1 q3 q4 (fun _ => rfl) (fun _ => rfl) (ihy Y hY hb q2)
            | _ =>
              rw [hX] at h2
              exact OutTo.of (.refl _ _) (.refl _ _ _) .same (fun id => exitTo_code id y k) (fun ⟨_, _, _, e⟩ => by cases e) h2
          | some kk =>
            simp only
            subst hAe
            obtain ⟨rfl, hr, hx'⟩ := hA
            exact amb_ok hT hE hC (fun hb hf => ihx' X hx' hb hf) (fun hb hf => ihy Y hY hb hf) hr hb r2 hmn 100
        | _ =>
          rw [hP] at h0
          exact OutTo.of (.refl _ _) (.refl _ _ _) .same (fun id => by rw [exitTo_code, exitTo_code]) (fun ⟨_, _, _, e⟩ => by cases e) h0
      · cases hsh
    rename_i X Y
    obtain ⟨hx, hy⟩ := hc
    have h1 := ihx X hx (k := .code y :: k) hb hf
    refine OutTo.head st_seq ?_
    simp only [den]
    cases hX : den call X tm df h with
    | nrm t d g =>
      rw [hX] at h1
      obtain ⟨a', cl', w', χ, q1, q2, q3, q4⟩ := h1
      exact OutTo.of q1 q3 q4 (fun _ => rfl) (fun _ => rfl) (ihy Y hy hb q2)
    | _ =>
      rw [hX] at h1
      exact OutTo.of (.refl _ _) (.refl _ _ _) .same (fun id => exitTo_code id y k) (fun ⟨_, _, _, e⟩ => by cases e) h1
  | cond c x y =>
    have ihx := ihs (SizeOf.sizeOf x) (by simp only [Code.cond.sizeOf_spec]; omega) x rfl
    have ihy := ihs (SizeOf.sizeOf y) (by simp only [Code.cond.sizeOf_spec]; omega) y rfl
    intro ic hc b k φ h w tm df a cl hb hf
    cases ic <;> first | trivial | exact hc.elim | skip
    rename_i C X Y
    obtain ⟨hcc, hx, hy⟩ := hc
    simp only [den]
    split
    · rename_i hv
      have e := (cX_ok hf.ev hcc).bool_inv hv
      exact OutTo.head (st_cond e) (ihx X hx hb hf)
    · rename_i hv
      have e := (cX_ok hf.ev hcc).bool_inv hv
      exact OutTo.head (st_cond e) (ihy Y hy hb hf)
    · trivial
  | block id x =>
    have ih := ihs (SizeOf.sizeOf x) (by simp only [Code.block.sizeOf_spec]; omega) x rfl
    intro ic hc b k φ h w tm df a cl hb hf
    cases ic <;> first | trivial | exact hc.elim | skip
    rename_i id' X
    obtain ⟨rfl, hx⟩ := hc
    have h1 := ih X hx (k := .inBlock id' :: k) hb hf
    refine OutTo.head st_block ?_
    simp only [den]
    cases hX : den call X tm df h with
    | nrm t d g =>
      rw [hX] at h1
      obtain ⟨a', cl', w', χ, q1, q2, q3, q4⟩ := h1
      exact ⟨a', cl', w', χ, q1.trans (.one st_inBlock), q2, q3, q4⟩
    | ext i2 t d g =>
      rw [hX] at h1
      obtain ⟨a', cl', w', χ, k0, q0, q1, q2, q3, q4⟩ := h1
      simp only
      split
      · rename_i e
        subst e
        have : exitTo i2 k0 = some k := by rw [q0]; simp [exitTo]
        exact ⟨a', cl', w', χ, q1.trans (.one (st_exit this)), q2, q3, q4⟩
      · rename_i e
        refine ⟨a', cl', w', χ, k0, ?_, q1, q2, q3, q4⟩
        rw [q0]
        have : (id' == i2) = false := by simp; exact fun h => e h.symm
        simp [exitTo, this]
    | ret t d g => rw [hX] at h1; exact h1
    | pan v t d g => rw [hX] at h1; exact h1
    | fail => trivial
  | loop x =>
    have ih := ihs (SizeOf.sizeOf x) (by simp only [Code.loop.sizeOf_spec]; omega) x rfl
    intro ic hc b k φ h w tm df a cl hb hf
    cases ic <;> first | trivial | exact hc.elim | skip
    rename_i X
    refine OutTo.head st_loop ?_
    simp only [den]
    have key : ∀ (n : Nat) {φ : Phi} {h : H} {w : World} {tm : Go.Eng.T} {df : List ADef} {a : Act} {cl : List Frame}, FR cs T N b φ h w tm df a cl →
        OutTo P cs T N b k (lone (frA b a (.code x :: .inLoop x :: k)) cl w) φ h w cl (runIter (den call X) n tm df h) := by
      intro n
      induction n with
      | zero => intros; trivial
      | succ n ihn =>
        intro φ h w tm df a cl hf
        have h1 := ih X hc (k := .inLoop x :: k) hb hf
        simp only [runIter]
        cases hX : den call X tm df h with
        | nrm t d g =>
          rw [hX] at h1
          obtain ⟨a', cl', w', χ, q1, q2, q3, q4⟩ := h1
          exact OutTo.of (q1.trans (.one st_inLoop)) q3 q4 (fun _ => rfl) (fun _ => rfl) (ihn q2)
        | _ =>
          rw [hX] at h1
          exact OutTo.of (.refl _ _) (.refl _ _ _) .same (fun id => exitTo_loop id x k) (fun ⟨_, _, _, e⟩ => by cases e) h1
    exact key _ hf
  | rangeFunc f ps x y =>
    intro ic hc b k φ h w tm df a cl hb hf
    cases ic <;> first | trivial | exact hc.elim | skip
    exact hRF hc.2 hb hf hc.1
  | exit id =>
    intro ic hc b k φ h w tm df a cl hb hf
    cases ic <;> first | trivial | exact hc.elim | skip
    have : _ = id := hc
    subst this
    exact ⟨a, cl, w, φ, k, rfl, .refl _ _, hf, .refl _ _ _, .same⟩
  | scope x =>
    have ih := ihs (SizeOf.sizeOf x) (by simp only [Code.scope.sizeOf_spec]; omega) x rfl
    intro ic hc b k φ h w tm df a cl hb hf
    have h1 : CodeOK P T N cs fn D x ic := by
      cases ic with
      | bad => cases x <;> trivial
      | _ => exact hc
    refine OutTo.head st_scope ?_
    have h2 := ih ic h1 (k := .inScope x :: k) hb hf
    cases hX : den call ic tm df h with
    | nrm t d g =>
      rw [hX] at h2
      obtain ⟨a', cl', w', χ, q1, q2, q3, q4⟩ := h2
      exact ⟨a', cl', w', χ, q1.trans (.one st_inScope), q2, q3, q4⟩
    | _ =>
      rw [hX] at h2
      exact OutTo.of (.refl _ _) (.refl _ _ _) .same (fun id => exitTo_scope id x k) (fun ⟨_, _, _, e⟩ => by cases e) h2
  | ret =>
    intro ic hc b k φ h w tm df a cl hb hf
    cases ic <;> first | trivial | exact hc.elim | skip
    exact ⟨a, cl, w, φ, k, .refl _ _, hf, .refl _ _ _, .same⟩
  | _ =>
    intro ic hc
    intros
    cases ic <;> first | trivial | exact hc.elim
end Go.Eng
end
section
namespace Go.Eng
variable {P : Program} {cs : Nat → Option CSite} {φ ψ : Phi} {h : H} {w : World} {T : Tab} {tm : Go.Eng.T} {ρ : Operand → Value}
section steps
variable {b : Frame} {a : Act} {k : List Item} {cl : List Frame}
theorem st_rangeFunc {f : Operand} {ps : Array Tmp} {x y : Code} {l : Nat} {mk : List Deferred} {w' : World} (he : (Instr.enterLoop b.fn a.tmps ps x y b.roundOf).run P w = .ok (l, mk) w') :
    Applies P (lone (frA b a (.code (.rangeFunc f ps x y) :: k)) cl w) (frA b { a with defers := mk ++ a.defers } (.inRangeFunc l :: k)) cl
      (do let d ← Deferred.ofValue (a.eval f) [Value.func (.yield l) #[] #[]].toArray; invoke d.target d.args) w' := by
  intro fr' cl' w2 happ
  refine step_lone_go ?_
  rw [← happ]
  simp only [stepG, stepG.exec, frA, Sem.runT_eq, he, GStep.bare_after]
  have hev : ∀ (fr : Frame), fr.tmps = a.tmps → fr.eval f = a.eval f := by
    intro fr hfr
    cases f <;> simp [Frame.eval, Act.eval, hfr]
  simp only [resolve]
  rw [hev _ rfl]
  simp only [List.map_toArray, List.map_cons, List.map_nil, Frame.eval]
theorem st_endRangeFunc {l : Nat} {jump : Option Code} {w' : World} (he : (Instr.endLoop l).run P w = .ok jump w') :
    step P (lone (frA b a (.endRangeFunc l :: k)) cl w) = .next (lone (frA b a ((jump.map Item.code).toList ++ k)) cl w') :=
  step_lone_go (by simp [stepG, stepG.exec, frA, he])
end steps
theorem run_getLoop {l : Nat} {r : Loop} (hl : w.heap[l]? = some (.loop r)) : (Instr.getLoop l).run P w = .ok r w := by
  have hlt : l < w.heap.size := (Array.getElem?_eq_some_iff.1 hl).1
  have hg : (getObj l).run P w = .ok (.loop r) w := by simp [getObj, Sem.run, hl]
  simp [Instr.getLoop, hg]
theorem new_loop (hr : HR cs φ h w) (hm : h.room = true) {site : Nat} {s : CSite} (hs : cs site = some s) {tmps : Array Value} (ht : TR φ s.N tm tmps) (defers : Nat) :
    HR cs (φ.add (.of h.next) ⟨w.heap.size, 0, 0⟩) (h.new (bLoop 0 0 site tm)) (pushed w (.loop { state := .ready, pending := none, fn := s.fn, tmps, params := s.params, assign := s.assign, body := s.body, defers })) ∧
    Ext φ h w (φ.add (.of h.next) ⟨w.heap.size, 0, 0⟩) (h.new (bLoop 0 0 site tm)) (pushed w (.loop { state := .ready, pending := none, fn := s.fn, tmps, params := s.params, assign := s.assign, body := s.body, defers })) := by
  refine ⟨hr.new hm ?_, Ext.new hr hm⟩
  exact ⟨_, s, getElem?_push_new _ _, hs, rfl, rfl, rfl, ht.mono (Phi.le_add (hr.none hm) _), rfl, rfl, rfl⟩
theorem new_defs (hr : HR cs φ h w) (hm : h.room = true) :
    HR cs (φ.add (.of h.next) ⟨w.heap.size, 0, 0⟩) (h.new bDefs) (pushed w (.deferred (some []))) ∧ Ext φ h w (φ.add (.of h.next) ⟨w.heap.size, 0, 0⟩) (h.new bDefs) (pushed w (.deferred (some []))) :=
  ⟨hr.new hm (getElem?_push_new _ _), Ext.new hr hm⟩
theorem setLoop_run {l : Nat} {r r' : Loop} (hl : w.heap[l]? = some (.loop r)) : (setObj l (.loop r')).run P w = .ok () { w with heap := w.heap.setIfInBounds l (.loop r') } := by
  have hlt : l < w.heap.size := (Array.getElem?_eq_some_iff.1 hl).1
  simp [setObj, Sem.run, hl]
theorem put_loop (hr : HR cs φ h w) {b : Id} {cb : CB} (hb : φ b = some cb) {st pend site : Nat} {tm' : Go.Eng.T} (hv : (h.blk b).view = .loop st pend site tm') {r r' : Loop} (hl : w.heap[cb.blk]? = some (.loop r)) {st' pend' : Nat}
    (h1 : r'.state = stOf st') (h2 : r'.pending = pendCode pend') (h3 : r'.fn = r.fn) (h4 : r'.tmps = r.tmps) (h5 : r'.params = r.params) (h6 : r'.assign = r.assign) (h7 : r'.body = r.body) :
    HR cs φ (h.put b (bLoop st' pend' site tm')) { w with heap := w.heap.setIfInBounds cb.blk (.loop r') } ∧ Ext φ h w φ (h.put b (bLoop st' pend' site tm')) { w with heap := w.heap.setIfInBounds cb.blk (.loop r') } := by
  have hB := hr.blks b cb hb
  rw [hv] at hB
  obtain ⟨l, s, q1, q2, q3, q4, q5, q6, q7, q8, q9⟩ := hB
  rw [hl] at q1
  cases q1
  have hlt : cb.blk < w.heap.size := (Array.getElem?_eq_some_iff.1 hl).1
  have hoth : ∀ B, B ≠ cb.blk → ({ w with heap := w.heap.setIfInBounds cb.blk (.loop r') } : World).heap[B]? = w.heap[B]? := fun B hB => by
    show (w.heap.setIfInBounds cb.blk _)[B]? = _
    rw [Array.getElem?_setIfInBounds_ne (Ne.symm hB)]
  refine ⟨hr.put hb (by rw [hv]; rfl) hoth ⟨r', s, ?_, q2, h1, h2, h3.trans q5, by rw [h4]; exact q6, h5.trans q7, h6.trans q8, h7.trans q9⟩, Ext.put hb (by rw [hv]; rfl) hoth (by simp) rfl rfl rfl⟩
  show (w.heap.setIfInBounds cb.blk (.loop r'))[cb.blk]? = _
  simp [hlt]
theorem endLoop_ok {N : Nat} {b : Frame} {k : List Item} {df : List ADef} {a : Act} {cl : List Frame} (hf : FR cs T N b φ h w tm df a cl) {l : Id} {cb : CB} (hb : φ l = some cb) :
    OutTo P cs T N b k (lone (frA b a (.endRangeFunc cb.blk :: k)) cl w) φ h w cl (endLoop h l tm df) := by
  unfold endLoop
  split
  · rename_i st pend site tm' hv
    have hB := hf.hr.blks l cb hb
    rw [hv] at hB
    obtain ⟨r, s, q1, q2, q3, q4, q5, q6, q7, q8, q9⟩ := hB
    split
    · trivial
    · rename_i hst
      have hnb : (r.state == LoopState.busy) = false := by
        rw [q3]
        match st, hst with
        | 0, _ => rfl
        | 2, _ => rfl
        | n + 3, _ => rfl
      have hrun : (Instr.endLoop cb.blk).run P w = .ok (pendCode pend) { w with heap := w.heap.setIfInBounds cb.blk (.loop { r with state := .exhausted }) } := by
        rw [← q4]
        simp only [Instr.endLoop, Sem.run_bind, run_getLoop q1, Result.andThen, hnb, Bool.false_eq_true, if_false, Sem.run_pure, setLoop_run q1]
      obtain ⟨g1, g2⟩ := put_loop (st' := 3) (pend' := pend) (r' := { r with state := .exhausted }) hf.hr hb hv q1 rfl q4 rfl rfl rfl rfl rfl
      have hf' : FR cs T N b φ (h.put l (bLoop 3 pend site tm')) { w with heap := w.heap.setIfInBounds cb.blk (.loop { r with state := .exhausted }) } tm df a cl := ⟨g1, hf.tr, hf.dr, hf.pn, hf.gl⟩
      have hst := st_endRangeFunc (P := P) (b := b) (a := a) (k := k) (cl := cl) hrun
      match pend with
      | 0 => exact ⟨a, cl, _, φ, .one hst, hf', g2, .same⟩
      | 1 => exact ⟨a, cl, _, φ, k, .one hst, hf', g2, .same⟩
      | id + 2 => exact ⟨a, cl, _, φ, k, rfl, .one hst, hf', g2, .same⟩
  · trivial
theorem rf_call {call : Cl} (hC : CallOK P cs T call) {N : Nat} {b : Frame} {k : List Item} {a a1 : Act} {cl : List Frame} {m : Machine} {h h1 : H} {w w1 : World} {φ1 : Phi} {df : List ADef} (hf : FR cs T N b φ1 h1 w1 tm df a1 cl) (he : Ext φ h w φ1 h1 w1) (hpn : h1.pn = h.pn)
    {l : Id} {cb : CB} (hb : φ1 l = some cb) {f : V} {d : Value} (hd : VR φ1 f d)
    (hap : Applies P m (frA b a1 (.inRangeFunc cb.blk :: k)) cl (do let x ← Deferred.ofValue d [Value.func (.yield cb.blk) #[] #[]].toArray; invoke x.target x.args) w1) :
    OutTo P cs T N b k m φ h w cl (match quietly call f [vYld l] h1 with
      | .ok _ h2 => endLoop h2 l tm df
      | .pan v h2 => .pan v tm df h2
      | .fail => .fail) := by
  have hc := hC (h := h1.setPn vUnk) (hf.hr.setPn _) hf.gl rfl hd (.cons (.yld (view_yld l) hb) .nil) (fr := frA b a1 (.inRangeFunc cb.blk :: k)) trivial hap
  unfold quietly
  cases hres : call f [vYld l] (h1.setPn vUnk) with
  | fail => trivial
  | ok v h2 =>
    rw [hres] at hc
    obtain ⟨c, w', ψ, hst, hr', hext, hv⟩ := hc
    have hext' : Ext φ1 h1 w1 ψ (h2.setPn h1.pn) w' := ((Ext.setPn vUnk).trans hext).trans (Ext.setPn _)
    have hf2 : FR cs T N b ψ (h2.setPn h1.pn) w' tm df a1 cl := ⟨hr'.setPn _, hf.tr.mono hext'.le, hf.dr.mono hext'.le, hf.pn.step hext'.le .same, hf.gl.mono hext'.le⟩
    have hfin : (frA b a1 (.inRangeFunc cb.blk :: k)).finish c = frA b a1 (.endRangeFunc cb.blk :: k) := rfl
    rw [hfin] at hst
    exact OutTo.of hst (he.trans hext') (by show PT h.pn h1.pn cl cl; rw [hpn]; exact .same) (fun _ => rfl) (fun _ => rfl) (endLoop_ok hf2 (hext'.le _ _ hb))
  | pan v h2 =>
    rw [hres] at hc
    obtain ⟨c, w', ψ, hst, hr', hext, hv, htag⟩ := hc
    have hext' : Ext φ1 h1 w1 ψ (h2.setPn h1.pn) w' := ((Ext.setPn vUnk).trans hext).trans (Ext.setPn _)
    have hf2 : FR cs T N b ψ (h2.setPn h1.pn) w' tm df a1 cl := ⟨hr'.setPn _, hf.tr.mono hext'.le, hf.dr.mono hext'.le, hf.pn.step hext'.le .same, hf.gl.mono hext'.le⟩
    exact ⟨a1, cl, w', ψ, _, c, hst, hf2, he.trans hext', by show PT h.pn h1.pn cl cl; rw [hpn]; exact .same, hv, htag⟩
theorem rf_ok {call : Cl} (hC : CallOK P cs T call) : RfOK P cs T call := by
  intro N fn ps x y site hsite b k φ h w tm df a cl f X hbfn hf hX
  unfold rfA
  split
  ·
    rename_i htag
    split
    · rename_i st0 pend0 site0 tm0 hv0
      split
      · rename_i hroom
        cases hf.pn with
        | none hp => omega
        | live hp => omega
        | round _ hb0 hro =>
          rename_i cb0
          have hB := hf.hr.blks _ _ hb0
          rw [hv0] at hB
          obtain ⟨r0, s0, q1, _⟩ := hB
          obtain ⟨g1, g2⟩ := new_loop hf.hr hroom hsite hf.tr r0.defers
          have hent : (Instr.enterLoop b.fn a.tmps ps x y b.roundOf).run P w = .ok (w.heap.size, []) (pushed w (.loop { state := .ready, pending := none, fn := fn, tmps := a.tmps, params := ps, assign := x, body := y, defers := r0.defers })) := by
            rw [hro, hbfn]
            simp [Instr.enterLoop, run_getLoop q1, pushed]
          have hap := st_rangeFunc (P := P) (b := b) (a := a) (k := k) (cl := cl) (f := f) hent
          have hb1 : (φ.add (.of h.next) ⟨w.heap.size, 0, 0⟩) (.of h.next) = some ⟨w.heap.size, 0, 0⟩ := Phi.add_same _ _ _
          exact rf_call hC (a := a) (a1 := { a with defers := [] ++ a.defers }) ⟨g1, hf.tr.mono g2.le, hf.dr.mono g2.le, hf.pn.step g2.le .same, hf.gl.mono g2.le⟩ g2 rfl hb1 ((cX_ok hf.ev hX).mono g2.le) hap
      · trivial
    · trivial
  · rename_i htag
    split
    · rename_i hroom
      have hro : b.roundOf = none := by
        cases hf.pn with
        | none _ hr => exact hr
        | live _ hr => exact hr
        | round hp => exact absurd hp htag
      obtain ⟨g1, g2⟩ := new_defs hf.hr hroom.1
      obtain ⟨k1, k2⟩ := new_loop g1 hroom.2 hsite (hf.tr.mono g2.le) w.heap.size
      have hent : (Instr.enterLoop b.fn a.tmps ps x y b.roundOf).run P w = .ok ((pushed w (.deferred (some []))).heap.size, [{ target := .collected w.heap.size, args := #[] }])
          (pushed (pushed w (.deferred (some []))) (.loop { state := .ready, pending := none, fn := fn, tmps := a.tmps, params := ps, assign := x, body := y, defers := w.heap.size })) := by
        rw [hro, hbfn]
        simp [Instr.enterLoop, pushed]
        rfl
      have hap := st_rangeFunc (P := P) (b := b) (a := a) (k := k) (cl := cl) (f := f) hent
      have hle := g2.trans k2
      have hb0 := k2.le _ _ (Phi.add_same φ (.of h.next) ⟨w.heap.size, 0, 0⟩)
      have hb1 := Phi.add_same (φ.add (.of h.next) ⟨w.heap.size, 0, 0⟩) (.of (h.new bDefs).next) ⟨(pushed w (.deferred (some []))).heap.size, 0, 0⟩
      exact rf_call hC (a := a) (a1 := { a with defers := [{ target := .collected w.heap.size, args := #[] }] ++ a.defers }) ⟨k1, hf.tr.mono hle.le, .cons (.mark hb0) (hf.dr.mono hle.le), hf.pn.step hle.le .same, hf.gl.mono hle.le⟩ hle rfl hb1 ((cX_ok hf.ev hX).mono hle.le) hap
    · trivial
end Go.Eng
end
