/-
  make, append, copy, clear, conversions, maps: what the abstract machine says of them, the model does.
-/
import Derived.Test.YtmiodddnokpdfaaGreatDoorAv7
import Derived.Laws.Strings2
namespace Go.Av
noncomputable section
set_option linter.unusedSectionVars false
variable [Toks]
set_option linter.unusedSimpArgs false
set_option linter.unusedVariables false

section run
variable {P : Program} {w : World}

theorem room_le {n bytes : Nat} (h : n * (bytes + 1) ≤ room) : n ≤ 2 ^ 40 ∧ n * bytes ≤ 2 ^ 40 := by
  unfold room at h
  have : n * (bytes + 1) = n * bytes + n := by rw [Nat.mul_add, Nat.mul_one]
  omega

theorem wrap_small {n : Int} (h0 : 0 ≤ n) (h1 : n ≤ 2 ^ 40) : IntKind.i64.wrap n = n := by
  unfold IntKind.wrap
  simp [IntKind.bits, IntKind.signed]
  omega

theorem wrap_zero : IntKind.i64.wrap 0 = 0 := by decide

theorem makeSliceA_rel {I : Inj} {Z : Zed} {h h' : AH} (hr : Rel I Z h w) {t : TypeId} {l c : AV} {lv cv : Value} (hl : VRel I Z l lv) (hc : VRel I Z c cv) {r : AV} (e : makeSliceA P h t l c = some (r, h')) :
    ∃ J v w', (Instr.makeSlice t lv cv).run P w = .ok v w' ∧ Goes I Z h w J Z h' w' ∧ VRel J Z r v := by
  unfold makeSliceA at e
  split at e
  · rename_i el ln cn hel hln hcn
    obtain ⟨k1, rfl, rfl⟩ := intA_rel hl hln
    obtain ⟨k2, rfl, rfl⟩ := intA_rel hc hcn
    split at e
    · rename_i es z bytes hes hz hb
      obtain ⟨hsz, hpos⟩ := esA_some hes
      split at e
      · rename_i hcond
        obtain ⟨hzl, hzo, h0, h1, h2⟩ := hcond
        simp only [Option.some.injEq] at e
        obtain ⟨i, hi, hib⟩ := run_bytesA (w := w) hb
        obtain ⟨zv, hzr, hzrel⟩ := zero_rel (I := I) (Z := Z) (w := w) hz
        have hzc := cells_rel hzrel hzo
        have hzs : zv.cells.size = es := by have := hzc.1; simp at this; omega
        obtain ⟨c, rfl⟩ := Int.eq_ofNat_of_zero_le (Int.le_trans h0 h1)
        obtain ⟨l, rfl⟩ := Int.eq_ofNat_of_zero_le h0
        simp only [Int.toNat_natCast] at e
        have h2' : c * (bytes + 1) ≤ room := by have : ((c * (bytes + 1) : Nat) : Int) ≤ room := by simpa using h2
                                                omega
        obtain ⟨hc1, hc2⟩ := room_le h2'
        have hrow := zeroRow_rel hzc (by omega) c
        rw [hzl] at hrow
        obtain ⟨J, w', e1, hg, hv⟩ := newSlice_rel (P := P) hr (elem := el) (cells := (Array.range (c * es)).map (zv.cells[· % zv.cells.size]!)) (es := es) (n := l) (c := c) ⟨[], by simp, by simp⟩ hrow (repZ_one hzo c) (by omega) (by simp)
        rw [e] at hg hv
        refine ⟨J, _, w', ?_, hg, hv⟩
        have hu := elemA_some hel
        have hwl : IntKind.i64.wrap (l : Int) = l := wrap_small (by omega) (by omega)
        have hwc : IntKind.i64.wrap (c : Int) = c := wrap_small (by omega) (by omega)
        have hb' : (i.bytes : Int) * (c : Int) ≤ 2 ^ 48 := by
          rw [hib]
          have : ((c * bytes : Nat) : Int) ≤ 2 ^ 40 := by exact_mod_cast hc2
          have h3 : (bytes : Int) * c = ((c * bytes : Nat) : Int) := by push_cast; rw [Int.mul_comm]
          rw [h3]; omega
        by_cases hz0 : c * es = 0
        · have hc0 : c = 0 := by rcases Nat.mul_eq_zero.1 hz0 with h | h <;> omega
          subst hc0
          have hl0 : l = 0 := by omega
          subst hl0
          have hr0 : Array.range 0 = #[] := rfl
          simp only [Nat.zero_mul, hr0] at e1
          simp [Instr.makeSlice, run_underlying hu, asInt, asIntOf, hi, wrap_zero, run_szA hsz, hr0]
          have e1' : (newRow el #[]).run P w = .ok ⟨w.heap.size, 0, none⟩ w' := by simpa using e1
          rw [e1']; rfl
        · simp only [Instr.makeSlice, Sem.run_bind, run_underlying hu, Result.andThen_ok, asInt, asIntOf, Sem.run_pure, hi, hwl, hwc, run_szA hsz, run_askRoom, Int.toNat_natCast]
          have hcnd : ((decide ((c : Int) < 0) || decide ((i.bytes : Int) * c > 2 ^ 48)) || decide ((l : Int) < 0) || decide ((l : Int) > c)) = false := by
            simp; omega
          have hcnd' : ¬ ((((decide ((c : Int) < 0) || decide ((i.bytes : Int) * c > 2 ^ 48)) || decide ((l : Int) < 0) || decide ((l : Int) > c)) = true)) := by rw [hcnd]; simp
          simp only [hcnd, Bool.false_eq_true, if_false, Sem.run_bind, Sem.run_pure, Result.andThen_ok, run_askRoom, run_szA hsz, hz0, hzr, e1]
      · cases e
    · cases e
  · cases e

/-- The cells of a slice, as the model reads them. -/
theorem sliceCells_rel {I : Inj} {Z : Zed} {h : AH} (hr : Rel I Z h w) {es : Nat} {x : AV} {v : Value} (hv : VRel I Z x v) {cs : List AV} (e : sliceCells h es x = some cs) :
    ∃ n vs, Builtin.lenOf v = (pure n : Sem Nat) ∧ cs.length = n * es ∧ LRel I Z cs vs ∧ (∀ w', w'.heap = w.heap → (Builtin.firstCells es n v).run P w' = .ok vs.toArray w') ∧
      (∀ m, m ≤ n → ∀ w', w'.heap = w.heap → (Builtin.firstCells es m v).run P w' = .ok (vs.take (m * es)).toArray w') := by
  have H : ∀ (b o len cap n : Nat) (vs : List Value), vs.length = n * es → (∀ (j : Nat) x, vs[j]? = some x → w.cell? ⟨b, o + j, none⟩ = some x) →
      (∀ m, m ≤ n → ∀ w', w'.heap = w.heap → (Builtin.firstCells es m (.slice (some ⟨b, o, none⟩) len cap)).run P w' = .ok (vs.take (m * es)).toArray w') := by
    intro b o len cap n vs hl hc m hm w' hw
    have hlt : (vs.take (m * es)).length = m * es := by
      rw [List.length_take, hl]; exact Nat.min_eq_left (Nat.mul_le_mul_right _ hm)
    have := run_loadCells_list (P := P) w' ⟨b, o, none⟩ (vs.take (m * es)) (fun j x ex => by
      rw [List.getElem?_take] at ex
      split at ex
      · rw [addr_add]; simp only [World.cell?, hw]; simpa [World.cell?] using hc j x ex
      · cases ex)
    rw [hlt] at this
    simp only [Builtin.firstCells]
    exact this
  have H0 : ∀ (b o len cap n : Nat) (vs : List Value), vs.length = n * es → (∀ (j : Nat) x, vs[j]? = some x → w.cell? ⟨b, o + j, none⟩ = some x) →
      (∀ w', w'.heap = w.heap → (Builtin.firstCells es n (.slice (some ⟨b, o, none⟩) len cap)).run P w' = .ok vs.toArray w') := by
    intro b o len cap n vs hl hc w' hw
    have := H b o len cap n vs hl hc n (Nat.le_refl _) w' hw
    rwa [← hl, List.take_length] at this
  unfold sliceCells at e
  split at e
  · cases e
    cases hv
    exact ⟨0, [], rfl, by simp, .nil, fun w' _ => by simp [Builtin.firstCells], fun m hm w' _ => by simp [Builtin.firstCells]⟩
  · cases e
    have hz : ∀ m, m ≤ 0 → m = 0 := fun m h => by omega
    cases hv with
    | emp0 => exact ⟨0, [], rfl, by simp, .nil, fun w' _ => by simp [Builtin.firstCells], fun m hm w' _ => by simp [Builtin.firstCells]⟩
    | emp1 b o => exact ⟨0, [], rfl, by simp, .nil, fun w' _ => by simp [Builtin.firstCells, loadCells, loadCellsFrom], fun m hm w' _ => by
        obtain rfl := hz m hm
        simp [Builtin.firstCells, loadCells, loadCellsFrom]⟩
  · split at e
    · rename_i cs0 n hl
      cases e
      cases hv with
      | imm hl' hz hvv hc =>
        rename_i vs blk base cap
        have hcl : ∀ (j : Nat) x, vs[j]? = some x → w.cell? ⟨blk, base + j, none⟩ = some x := fun j x ex => (hr.zed _ _ _ (hz j x ex)).1
        exact ⟨n, vs, rfl, hl, ⟨hl'.symm, hvv⟩, H0 _ _ _ _ _ _ (by omega) hcl, H _ _ _ _ _ _ (by omega) hcl⟩
    · cases e
  · rename_i k o n cap
    split at e
    · rename_i es' cs0 hg
      split at e
      · rename_i hes
        subst hes
        obtain ⟨hl, hget⟩ := takeN_get e
        obtain ⟨B, hB, hBes, arr, tt, fr, a1, a2, a3, a4, a5⟩ := hr.cells k _ _ hg
        cases hv with
        | own hk hn hc =>
          rename_i capC B'
          rw [hB] at hk; cases hk
          obtain ⟨b, o', vs, e0, hl2, hL, hcell⟩ := cellsAt_rel hr (VRel.p (o := o) hB) (n := n * es') (cs := cs) (by simp only [cellsAt, hg]; exact e)
          cases e0
          exact ⟨n, vs, rfl, hl, hL, H0 _ _ _ _ _ _ (by have := hL.1; omega) hcell, H _ _ _ _ _ _ (by have := hL.1; omega) hcell⟩
        | own0 hk hc =>
          rename_i off B'
          have : cs = [] := by simpa using hl
          subst this
          exact ⟨0, [], rfl, by simp, .nil, fun w' _ => by simp [Builtin.firstCells, loadCells, loadCellsFrom], fun m hm w' _ => by
            obtain rfl : m = 0 := by omega
            simp [Builtin.firstCells, loadCells, loadCellsFrom]⟩
      · cases e
    · cases e
  · cases e

theorem strCells_rel {I : Inj} {Z : Zed} (s : ByteArray) : LRel I Z (s.data.toList.map fun c => .i .u8 c.toNat) (s.data.toList.map fun c => .int .u8 c.toNat) := by
  generalize s.data.toList = l
  induction l with
  | nil => exact .nil
  | cons c r ih => exact .cons (.i _ _) ih


theorem strCells_first (s : ByteArray) : (Builtin.firstCells 1 s.size (.string s)).run P w = .ok (s.data.toList.map fun c => Value.int .u8 c.toNat).toArray w := by
  have hx : (s.data.map (fun c : UInt8 => Value.int .u8 c.toNat)) = (s.data.toList.map fun c => Value.int .u8 c.toNat).toArray := by
    apply Array.ext'; simp
  have : s.extract 0 s.size = s := by
    obtain ⟨⟨l⟩⟩ := s
    rw [ByteArray.extract_mk]
    simp [ByteArray.size]
  simp only [Builtin.firstCells, this, hx, Sem.run_pure]

/-- What is appended. -/
theorem moreA_rel {I : Inj} {Z : Zed} {h : AH} (hr : Rel I Z h w) {es : Nat} {t e : TypeId} {z : List AV} {zv : Value} (hes : 0 < es) (hzl : z.length = es) (hz : LRel I Z z zv.cells.toList)
    (hzr : ∀ w', w'.heap = w.heap → (zeroValue e).run P w' = .ok zv w') {x : AV} {v : Value} (hv : VRel I Z x v) {new : List AV} {k : Nat} (hm : moreA P h es t z x = some (new, k)) :
    ∃ (news : List Value) (zs : Bool), LRel I Z new news ∧ new.length = k * es ∧
      (∃ d, P.underlying t = some d ∧ (zs = true → ∃ kk, d = .int kk) ∧ (zs = false → d = .string ∨ ∃ e', d = .slice e')) ∧
      (zs = false → Builtin.lenOf v = (pure k : Sem Nat)) ∧
      (zs = true → ∃ kk, v = .int kk (k : Int)) ∧
      (∀ w', w'.heap = w.heap → (if (!zs) = true then Builtin.firstCells es k v else if k * es = 0 then pure #[] else (do pure (Builtin.zeroCells (← zeroValue e).cells k) : Sem (Array Value))).run P w' = .ok news.toArray w') := by
  unfold moreA at hm
  split at hm
  · rename_i ik hu
    split at hm
    · rename_i kk n
      split at hm
      · rename_i hn
        cases hm
        cases hv
        have hzs : zv.cells.size = es := by have := hz.1; simp at this; omega
        have hrow := zeroRow_rel hz (by omega) n.toNat
        rw [hzl] at hrow
        have hzc : Builtin.zeroCells zv.cells n.toNat = (Array.range (n.toNat * es)).map (zv.cells[· % zv.cells.size]!) := by
          simp only [Builtin.zeroCells, hzs]
        refine ⟨_, true, hrow, by rw [repZ_length, hzl], ⟨_, hu, fun _ => ⟨_, rfl⟩, fun h => by simp at h⟩, fun h => by simp at h, fun _ => ⟨kk, by rw [Int.toNat_of_nonneg hn.1]⟩, fun w' hw => ?_⟩
        simp only [Bool.not_true, Bool.false_eq_true, if_false]
        by_cases h0 : n.toNat * es = 0
        · rw [if_pos h0, h0]
          simp
        · rw [if_neg h0]
          simp only [Sem.run_bind, hzr w' hw, Result.andThen_ok, Sem.run_pure, hzc]
      · cases hm
    · cases hm
  · rename_i hu
    split at hm
    · split at hm
      · rename_i s h1
        cases hm
        cases hv
        subst h1
        refine ⟨_, false, strCells_rel _, by rw [List.length_map, Nat.mul_one]; rfl, ⟨_, hu, fun h => by simp at h, fun _ => .inl rfl⟩, fun _ => rfl, fun h => by simp at h, fun w' _ => ?_⟩
        simp only [Bool.not_false, if_true]
        exact strCells_first _
      · cases hm
    · cases hm
  · rename_i el' hu
    have hnot : ∃ d', P.underlying t = some d' ∧ (false = true → ∃ kk, d' = .int kk) ∧ (false = false → d' = .string ∨ ∃ e', d' = .slice e') := ⟨_, hu, fun h => by simp at h, fun _ => .inr ⟨_, rfl⟩⟩
    split at hm
    · cases hm
      cases hv
      exact ⟨[], false, .nil, by simp, hnot, fun _ => rfl, fun h => by simp at h, fun w' _ => by simp [Builtin.firstCells]⟩
    · cases hm
      cases hv with
      | emp0 => exact ⟨[], false, .nil, by simp, hnot, fun _ => rfl, fun h => by simp at h, fun w' _ => by simp [Builtin.firstCells]⟩
      | emp1 b o => exact ⟨[], false, .nil, by simp, hnot, fun _ => rfl, fun h => by simp at h, fun w' _ => by simp [Builtin.firstCells, loadCells, loadCellsFrom]⟩
    · rename_i cs n
      split at hm
      · rename_i hl
        cases hm
        obtain ⟨n', vs, e1, e2, e3, e4, _⟩ := sliceCells_rel (P := P) hr (es := es) hv (cs := new) (by simp [sliceCells, hl])
        have hnn : n' = k := by
          have : n' * es = k * es := by omega
          exact Nat.eq_of_mul_eq_mul_right hes this
        subst hnn
        exact ⟨vs, false, e3, e2, hnot, fun _ => e1, fun h => by simp at h, fun w' hw => by simpa using e4 w' hw⟩
      · cases hm
    · rename_i id o n cap
      by_cases hn0 : n = 0
      · subst hn0
        rw [if_pos rfl] at hm
        cases hm
        refine ⟨[], false, .nil, by simp, hnot, fun _ => ?_, fun h => by simp at h, fun w' hw => ?_⟩
        · cases hv <;> rfl
        · cases hv <;> simp [Builtin.firstCells, loadCells, loadCellsFrom]
      rw [if_neg hn0] at hm
      cases hs : sliceCells h es (.own id o n cap) with
      | none => simp [hs] at hm
      | some cs =>
        simp [hs] at hm
        obtain ⟨rfl, rfl⟩ := hm
        obtain ⟨n', vs, e1, e2, e3, e4, _⟩ := sliceCells_rel (P := P) hr (es := es) hv hs
        have hnn : n' = n := by
          have hl2 : cs.length = n * es := by
            unfold sliceCells at hs
            dsimp only at hs
            split at hs
            · split at hs
              · exact (takeN_get hs).1
              · cases hs
            · cases hs
          have : n' * es = n * es := by omega
          exact Nat.eq_of_mul_eq_mul_right hes this
        subst hnn
        exact ⟨vs, false, e3, e2, hnot, fun _ => e1, fun h => by simp at h, fun w' hw => by simpa using e4 w' hw⟩
    · cases hm
  · cases hm

set_option maxHeartbeats 1000000 in
theorem run_append_in {es bytes k n capC : Nat} {ts tx ty e : TypeId} {tys : Array TypeId} (h0 : tys[0]? = some ts) (h1 : tys[1]? = some tx) (hu : P.underlying ts = some (.slice e)) {i : TypeInfo} (hi : P.info? e = some i)
    (hsz : i.size = es) (hb : i.bytes = bytes) {zv : Value} (hz : i.zero = some zv) (hk : k * (bytes + 1) ≤ room)
    (hzs : zv.cells.size = es) {v : Value} {base : Option Addr} {news olds : List Value} {w : World} {d : TypeDesc} (hux : P.underlying tx = some d)
    (hd : d = .string ∨ ∃ e', d = .slice e') (hl : Builtin.lenOf v = (pure k : Sem Nat)) (hnew : ∀ w', w'.heap = w.heap → (Builtin.firstCells es k v).run P w' = .ok news.toArray w') (hle : n + k ≤ capC) :
    ∀ w', (∀ a, base = some a → (storeCells (a.add (n * es)) news).run P w = .ok () w') → (base = none → w' = w) →
      (Builtin.append_ tys ty #[.slice base n capC, v]).run P w = .ok (.slice base (n + k) capC) w' := by
  obtain ⟨hk1, hk2⟩ := room_le hk
  subst hsz
  intro w' hst0 hno
  have hn := hnew w rfl
  rcases hd with rfl | ⟨e', rfl⟩
  all_goals
    cases base with
    | none => obtain rfl := hno rfl; simp [Builtin.append_, h0, h1, run_underlying hu, run_underlying hux, sizeOf, typeInfo, hi, hl, hle, hn]
    | some a => have hst := hst0 a rfl; simp [Builtin.append_, h0, h1, run_underlying hu, run_underlying hux, sizeOf, typeInfo, hi, hl, hle, hn, hst]

set_option maxHeartbeats 1000000 in
theorem run_append_in_zeros {es bytes k n capC : Nat} {ts tx ty e : TypeId} {tys : Array TypeId} (h0 : tys[0]? = some ts) (h1 : tys[1]? = some tx) (hu : P.underlying ts = some (.slice e)) {i : TypeInfo} (hi : P.info? e = some i)
    (hsz : i.size = es) (hb : i.bytes = bytes) {zv : Value} (hz : i.zero = some zv) (hk : k * (bytes + 1) ≤ room)
    (hzs : zv.cells.size = es) {v : Value} {base : Option Addr} {news olds : List Value} {w : World} {d : TypeDesc} (hux : P.underlying tx = some d)
    (hd : ∃ kk, d = .int kk) (hint : ∃ kk, v = .int kk (k : Int)) (hnew : ∀ w', w'.heap = w.heap → (if k * es = 0 then pure #[] else (do pure (Builtin.zeroCells (← zeroValue e).cells k) : Sem (Array Value))).run P w' = .ok news.toArray w') (hle : n + k ≤ capC) :
    ∀ w', (∀ a, base = some a → (storeCells (a.add (n * es)) news).run P w = .ok () w') → (base = none → w' = w) →
      (Builtin.append_ tys ty #[.slice base n capC, v]).run P w = .ok (.slice base (n + k) capC) w' := by
  obtain ⟨hk1, hk2⟩ := room_le hk
  subst hsz
  have hw : IntKind.i64.wrap (k : Int) = k := wrap_small (by omega) (by omega)
  have h2 : ¬ ((k : Int) < 0) := by omega
  have h3 : ¬ ((281474976710656 : Int) < (k : Int) * (i.bytes : Int)) := by
    rw [hb]
    have : ((k * bytes : Nat) : Int) ≤ 2 ^ 40 := by exact_mod_cast hk2
    push_cast at this; omega
  intro w' hst0 hno
  have hn := hnew w rfl
  obtain ⟨kk, rfl⟩ := hd
  obtain ⟨kk', rfl⟩ := hint
  cases base with
  | none =>
    obtain rfl := hno rfl
    simp [Builtin.append_, h0, h1, run_underlying hu, run_underlying hux, sizeOf, typeInfo, hi, asInt, asIntOf, hw, h2, h3, hle]
    by_cases hz0 : k * i.size = 0
    · have hz1 : k = 0 ∨ i.size = 0 := Nat.mul_eq_zero.1 hz0
      simp [hz0, hz1]
    · rw [if_neg hz0] at hn
      have hz1 : ¬ (k = 0 ∨ i.size = 0) := fun h => hz0 (Nat.mul_eq_zero.2 h)
      simp [hz0, hz1, zeroValue, typeInfo, hi, hz]
  | some a =>
    have hst := hst0 a rfl
    simp [Builtin.append_, h0, h1, run_underlying hu, run_underlying hux, sizeOf, typeInfo, hi, asInt, asIntOf, hw, h2, h3, hle]
    by_cases hz0 : k * i.size = 0
    · rw [if_pos hz0] at hn
      have hnn : news = [] := by
        simp only [Sem.run_pure, Result.ok.injEq, and_true] at hn
        have := congrArg Array.toList hn
        simpa using this.symm
      subst hnn
      have hz1 : k = 0 ∨ i.size = 0 := Nat.mul_eq_zero.1 hz0
      simp [hz0, hz1, hst]
    · rw [if_neg hz0] at hn
      have hz1 : ¬ (k = 0 ∨ i.size = 0) := fun h => hz0 (Nat.mul_eq_zero.2 h)
      have hn' : Builtin.zeroCells zv.cells k = news.toArray := by simpa [zeroValue, typeInfo, hi, hz] using hn
      simp [hz0, hz1, zeroValue, typeInfo, hi, hz, hn', hst]

theorem mem_zeroCells (z : Array Value) (n : Nat) : ∀ v ∈ (Builtin.zeroCells z n).toList, v ∈ z.toList := fun v hv => by
  simp only [Builtin.zeroCells, Array.toList_map, List.mem_map] at hv
  obtain ⟨j, hj, rfl⟩ := hv
  have hj' : j < n * z.size := by simpa using hj
  have hs : 0 < z.size := by
    rcases Nat.eq_zero_or_pos z.size with h | h
    · rw [h] at hj'; simp at hj'
    · exact h
  have hm : j % z.size < z.size := Nat.mod_lt _ hs
  rw [getElem!_pos z (j % z.size) hm]
  simp


set_option maxHeartbeats 1000000 in
theorem run_append_out {es bytes k n capC : Nat} {ts tx ty e : TypeId} {tys : Array TypeId} (h0 : tys[0]? = some ts) (h1 : tys[1]? = some tx) (hu : P.underlying ts = some (.slice e)) {i : TypeInfo} (hi : P.info? e = some i)
    (hsz : i.size = es) (hb : i.bytes = bytes) {zv : Value} (hz : i.zero = some zv) (hk : k * (bytes + 1) ≤ room) (hnk : (n + k) * (bytes + 1) ≤ room)
    (hzs : zv.cells.size = es) {v : Value} {base : Option Addr} {news olds : List Value} {w : World} {d : TypeDesc} (hux : P.underlying tx = some d)
    (hd : d = .string ∨ ∃ e', d = .slice e') (hl : Builtin.lenOf v = (pure k : Sem Nat)) (hnew : ∀ w', w'.heap = w.heap → (Builtin.firstCells es k v).run P w' = .ok news.toArray w') (hold : ∀ w', w'.heap = w.heap → (Builtin.firstCells es n (.slice base n capC)).run P w' = .ok olds.toArray w') (hgt : capC < n + k) :
    ∃ c rest, n + k ≤ c ∧ (rest.length = (c - (n + k)) * es ∧ ∀ v ∈ rest, v ∈ zv.cells.toList) ∧ ∀ a w', (newRow e ((olds ++ news) ++ rest).toArray).run P w.drew = .ok a w' →
      (Builtin.append_ tys ty #[.slice base n capC, v]).run P w = .ok (.slice (some a) (n + k) c) w' := by
  obtain ⟨hk1, hk2⟩ := room_le hk
  obtain ⟨hnk1, hnk2⟩ := room_le hnk
  subst hsz
  have hmax : ¬ ((9223372036854775807 : Int) < (n : Int) + (k : Int)) := by omega
  have hle : ¬ (n + k ≤ capC) := by omega
  have hfit : ¬ (281474976710656 < Builtin.nextslicecap (n + k) capC * i.bytes) := by
    have := growslice_fits (bytes := i.bytes) hgt (by rw [hb]; omega)
    omega
  refine ⟨grownCap w (n + k) capC e, (Builtin.zeroCells zv.cells (grownCap w (n + k) capC e - (n + k))).toList, ?_, ⟨by simp [Builtin.zeroCells, hzs], mem_zeroCells _ _⟩, fun a w' hrow => ?_⟩
  · unfold grownCap; simp only [Question.cut]; omega
  have hn := hnew w.drew rfl
  have ho := hold w.drew rfl
  have hrow' : (newRow e (olds.toArray ++ (news.toArray ++ Builtin.zeroCells zv.cells (grownCap w (n + k) capC e - (n + k))))).run P w.drew = .ok a w' := by
    rw [← hrow]; congr 2; apply Array.ext'; simp
  unfold grownCap at hrow'
  rcases hd with rfl | ⟨e', rfl⟩
  all_goals
    simp [Builtin.append_, h0, h1, run_underlying hu, run_underlying hux, sizeOf, typeInfo, zeroValue, hi, hz, hl, hle, hmax, hfit, Question.forced, hn, ho, hrow', grownCap]

set_option maxHeartbeats 1000000 in
theorem run_append_out_zeros {es bytes k n capC : Nat} {ts tx ty e : TypeId} {tys : Array TypeId} (h0 : tys[0]? = some ts) (h1 : tys[1]? = some tx) (hu : P.underlying ts = some (.slice e)) {i : TypeInfo} (hi : P.info? e = some i)
    (hsz : i.size = es) (hb : i.bytes = bytes) {zv : Value} (hz : i.zero = some zv) (hk : k * (bytes + 1) ≤ room) (hnk : (n + k) * (bytes + 1) ≤ room)
    (hzs : zv.cells.size = es) {v : Value} {base : Option Addr} {news olds : List Value} {w : World} {d : TypeDesc} (hux : P.underlying tx = some d)
    (hd : ∃ kk, d = .int kk) (hint : ∃ kk, v = .int kk (k : Int)) (hnew : ∀ w', w'.heap = w.heap → (if k * es = 0 then pure #[] else (do pure (Builtin.zeroCells (← zeroValue e).cells k) : Sem (Array Value))).run P w' = .ok news.toArray w') (hold : ∀ w', w'.heap = w.heap → (Builtin.firstCells es n (.slice base n capC)).run P w' = .ok olds.toArray w') (hgt : capC < n + k) :
    ∃ c rest, n + k ≤ c ∧ (rest.length = (c - (n + k)) * es ∧ ∀ v ∈ rest, v ∈ zv.cells.toList) ∧ ∀ a w', (newRow e ((olds ++ news) ++ rest).toArray).run P w.drew = .ok a w' →
      (Builtin.append_ tys ty #[.slice base n capC, v]).run P w = .ok (.slice (some a) (n + k) c) w' := by
  obtain ⟨hk1, hk2⟩ := room_le hk
  obtain ⟨hnk1, hnk2⟩ := room_le hnk
  subst hsz
  have hw : IntKind.i64.wrap (k : Int) = k := wrap_small (by omega) (by omega)
  have h2 : ¬ ((k : Int) < 0) := by omega
  have h3 : ¬ ((281474976710656 : Int) < (k : Int) * (i.bytes : Int)) := by
    rw [hb]
    have : ((k * bytes : Nat) : Int) ≤ 2 ^ 40 := by exact_mod_cast hk2
    push_cast at this; omega
  have hmax : ¬ ((9223372036854775807 : Int) < (n : Int) + (k : Int)) := by omega
  have hle : ¬ (n + k ≤ capC) := by omega
  have hfit : ¬ (281474976710656 < Builtin.nextslicecap (n + k) capC * i.bytes) := by
    have := growslice_fits (bytes := i.bytes) hgt (by rw [hb]; omega)
    omega
  refine ⟨grownCap w (n + k) capC e, (Builtin.zeroCells zv.cells (grownCap w (n + k) capC e - (n + k))).toList, ?_, ⟨by simp [Builtin.zeroCells, hzs], mem_zeroCells _ _⟩, fun a w' hrow => ?_⟩
  · unfold grownCap; simp only [Question.cut]; omega
  have hn := hnew w.drew rfl
  have ho := hold w.drew rfl
  have hrow' : (newRow e (olds.toArray ++ (news.toArray ++ Builtin.zeroCells zv.cells (grownCap w (n + k) capC e - (n + k))))).run P w.drew = .ok a w' := by
    rw [← hrow]; congr 2; apply Array.ext'; simp
  unfold grownCap at hrow'
  obtain ⟨kk, rfl⟩ := hd
  obtain ⟨kk', rfl⟩ := hint
  simp [Builtin.append_, h0, h1, run_underlying hu, run_underlying hux, sizeOf, typeInfo, zeroValue, hi, hz, asInt, asIntOf, hw, h2, h3, hle, hmax, hfit, Question.forced, ho, grownCap]
  by_cases hz0 : k * i.size = 0
  · rw [if_pos hz0] at hn
    have hnn : news = [] := by
      simp only [Sem.run_pure, Result.ok.injEq, and_true] at hn
      have := congrArg Array.toList hn
      simpa using this.symm
    subst hnn
    have hz1 : k = 0 ∨ i.size = 0 := Nat.mul_eq_zero.1 hz0
    simp at hrow'
    simp [hz0, hz1, hrow']
  · rw [if_neg hz0] at hn
    have hz1 : ¬ (k = 0 ∨ i.size = 0) := fun h => hz0 (Nat.mul_eq_zero.2 h)
    have hn' : Builtin.zeroCells zv.cells k = news.toArray := by simpa [zeroValue, typeInfo, hi, hz] using hn
    simp [hz0, hz1, hn', hrow']


theorem all_take {cs : List AV} (h : cs.all AV.one = true) (n : Nat) : (cs.take n).all AV.one = true := by
  rw [List.all_eq_true] at h ⊢; exact fun a ha => h a (List.mem_of_mem_take ha)

theorem own_one {I : Inj} {Z : Zed} {h : AH} (hr : Rel I Z h w) {k es : Nat} {cs : List AV} (hk : h.get k = some (.cells es cs)) : cs.all AV.one = true := by
  obtain ⟨B, hB, hes, arr, elem, fr, a1, a2, a3, a4, a5⟩ := hr.cells k es cs hk
  rw [List.all_eq_true]
  intro a ha
  obtain ⟨j, hj, rfl⟩ := List.getElem_of_mem ha
  exact (a4 j _ (List.getElem?_eq_getElem hj)).1

/-- The new row of a slice that has grown. -/
theorem grown_rel {I : Inj} {Z : Zed} {h : AH} (hr : Rel I Z h w) {e : TypeId} {es n c : Nat} {cs : List AV} {vs rest : List Value} (hL : LRel I Z cs vs) (hone : cs.all AV.one = true) (hl : cs.length = n * es) (hn : n ≤ c)
    (hrest : rest.length = (c - n) * es) (hro : ∀ v ∈ rest, v.oneCell' = true) :
    ∃ J w', (newRow e (vs ++ rest).toArray).run P w = .ok ⟨w.heap.size, 0, none⟩ w' ∧ Goes I Z h w J Z (newSlice h es n cs).2 w' ∧ VRel J Z (newSlice h es n cs).1 (.slice (some ⟨w.heap.size, 0, none⟩) n c) := by
  refine newSlice_rel (P := P) hr (elem := e) (es := es) (n := n) (c := c) ⟨rest, by simp, hro⟩ hL hone hn ?_
  have := hL.1
  simp only [List.size_toArray, List.length_append]
  rw [hrest, ← this, hl, ← Nat.add_mul]
  congr 1; omega

set_option maxHeartbeats 1000000 in
theorem append_ret {ty ts tx : TypeId} {tys : Array TypeId} (h0 : tys[0]? = some ts) (h1 : tys[1]? = some tx) {I : Inj} {Z : Zed} {h h' : AH} (hr : Rel I Z h w) {s x r : AV} {v u : Value}
    (hv : VRel I Z s v) (hu : VRel I Z x u) (e : appendA P h ts tx s x = some (r, h')) :
    ∃ J cv w', (Builtin.append_ tys ty #[v, u]).run P w = .ok cv w' ∧ Goes I Z h w J Z h' w' ∧ VRel J Z r cv := by
  unfold appendA at e
  split at e
  · cases e
  · rename_i el hel
    have hue := elemA_some hel
    split at e
    · rename_i es z bytes hes hz hb
      obtain ⟨hsz, hpos⟩ := esA_some hes
      split at e
      · rename_i hzc
        obtain ⟨hzl, hzo⟩ := hzc
        -- the element's row of the table
        unfold szA at hsz
        unfold bytesA at hb
        unfold zeroA at hz
        cases hi : P.info? el with
        | none => simp [hi] at hsz
        | some i =>
          simp [hi] at hsz hb
          simp only [hi, Option.bind_some] at hz
          cases hzv : i.zero with
          | none => simp [hzv] at hz
          | some zv =>
            simp [hzv] at hz
            have hzrel : VRel I Z z zv := hz ▸ ofV_rel I Z zv
            have hzr : ∀ w' : World, (zeroValue el).run P w' = .ok zv w' := fun w' => by simp [zeroValue, typeInfo, hi, hzv]
            have hzc := cells_rel hzrel hzo
            have hzs : zv.cells.size = es := by have := hzc.1; simp at this; omega
            have hzone : ∀ v ∈ zv.cells.toList, v.oneCell' = true := hzc.ones hzo
            cases hm : moreA P h es tx z.cells x with
            | none => simp [hm] at e
            | some nk =>
              obtain ⟨new, k⟩ := nk
              simp only [hm] at e
              split at e
              · rename_i hc
                obtain ⟨hno, hk⟩ := hc
                obtain ⟨news, zs, hnL, hnl, ⟨d, hux, hdt, hdf⟩, hlen, hint, hnew⟩ := moreA_rel (P := P) (e := el) hr hpos hzl hzc (fun w' _ => hzr w') hu hm
                have hnews : news.length = k * es := by rw [← hnL.1]; exact hnl
                -- what the model does, in place and elsewhere
                have IN : ∀ (n capC : Nat) (base : Option Addr), n + k ≤ capC → ∀ w', (∀ a, base = some a → (storeCells (a.add (n * es)) news).run P w = .ok () w') → (base = none → w' = w) →
                    (Builtin.append_ tys ty #[.slice base n capC, u]).run P w = .ok (.slice base (n + k) capC) w' := by
                  intro n capC base hle w' s1 s2
                  cases zs with
                  | false => exact run_append_in h0 h1 hue hi hsz hb hzv hk hzs hux (hdf rfl) (hlen rfl) (fun w' hw => by simpa using hnew w' hw) hle (olds := []) w' s1 s2
                  | true => exact run_append_in_zeros h0 h1 hue hi hsz hb hzv hk hzs hux (hdt rfl) (hint rfl) (fun w' hw => by simpa using hnew w' hw) hle (olds := []) w' s1 s2
                have OUT : ∀ (n capC : Nat) (base : Option Addr) (olds : List Value), (n + k) * (bytes + 1) ≤ room → capC < n + k → (∀ w', w'.heap = w.heap → (Builtin.firstCells es n (.slice base n capC)).run P w' = .ok olds.toArray w') →
                    ∃ c rest, n + k ≤ c ∧ (rest.length = (c - (n + k)) * es ∧ ∀ v ∈ rest, v ∈ zv.cells.toList) ∧ ∀ a w', (newRow el ((olds ++ news) ++ rest).toArray).run P w.drew = .ok a w' →
                      (Builtin.append_ tys ty #[.slice base n capC, u]).run P w = .ok (.slice (some a) (n + k) c) w' := by
                  intro n capC base olds hb2 hgt hold
                  cases zs with
                  | false => exact run_append_out h0 h1 hue hi hsz hb hzv hk hb2 hzs hux (hdf rfl) (hlen rfl) (fun w' hw => by simpa using hnew w' hw) hold hgt
                  | true => exact run_append_out_zeros h0 h1 hue hi hsz hb hzv hk hb2 hzs hux (hdt rfl) (hint rfl) (fun w' hw => by simpa using hnew w' hw) hold hgt
                have hdrew := Goes.drew hr (w.drawn + 1)
                split at e
                · -- to nil
                  cases hv
                  split at e
                  · rename_i hk0
                    cases e
                    subst hk0
                    refine ⟨I, _, w, IN 0 0 none (Nat.le_refl _) w (fun a h => by cases h) (fun _ => rfl), .refl hr, .nsl⟩
                  · rename_i hk0
                    obtain ⟨c, rest, hc1, hc2, hc3⟩ := OUT 0 0 none [] (by simpa using hk) (by omega) (fun w' _ => by simp [Builtin.firstCells])
                    simp only [Nat.zero_add] at hc1 hc2 hc3
                    obtain ⟨J, w', e1, hg, hvv⟩ := grown_rel (P := P) (e := el) hdrew.rel (n := k) (c := c) (rest := rest) hnL hno hnl hc1 hc2.1 (fun v hv => hzone v (hc2.2 v hv))
                    simp only [Option.some.injEq] at e
                    rw [e] at hg hvv
                    exact ⟨J, _, w', hc3 _ _ (by simpa using e1), hdrew.trans hr hg, hvv⟩
                · -- to nothing
                  have hstep : ∀ (base : Option Addr), v = .slice base 0 0 → (∀ w', w'.heap = w.heap → (Builtin.firstCells es 0 (.slice base 0 0)).run P w' = .ok #[] w') → VRel I Z .emp (.slice base 0 0) →
                      ∃ J cv w', (Builtin.append_ tys ty #[.slice base 0 0, u]).run P w = .ok cv w' ∧ Goes I Z h w J Z h' w' ∧ VRel J Z r cv := by
                    intro base hvb hf hve
                    split at e
                    · rename_i hk0
                      cases e
                      subst hk0
                      have hnil : news = [] := by simpa using hnews
                      subst hnil
                      exact ⟨I, _, w, IN 0 0 base (Nat.le_refl _) w (fun a h => by simp [storeCells]) (fun _ => rfl), .refl hr, hve⟩
                    · rename_i hk0
                      obtain ⟨c, rest, hc1, hc2, hc3⟩ := OUT 0 0 base [] (by simpa using hk) (by omega) hf
                      simp only [Nat.zero_add] at hc1 hc2 hc3
                      obtain ⟨J, w', e1, hg, hvv⟩ := grown_rel (P := P) (e := el) hdrew.rel (n := k) (c := c) (rest := rest) hnL hno hnl hc1 hc2.1 (fun v hv => hzone v (hc2.2 v hv))
                      simp only [Option.some.injEq] at e
                      rw [e] at hg hvv
                      exact ⟨J, _, w', hc3 _ _ (by simpa using e1), hdrew.trans hr hg, hvv⟩
                  cases hv with
                  | emp0 => exact hstep none rfl (fun w' _ => by simp [Builtin.firstCells]) .emp0
                  | emp1 b o => exact hstep (some ⟨b, o, none⟩) rfl (fun w' _ => by simp [Builtin.firstCells, loadCells, loadCellsFrom]) (.emp1 b o)
                · -- nothing, to what stays
                  rename_i cs n
                  split at e
                  · rename_i hk0
                    cases e
                    subst hk0
                    have hnil : news = [] := by have := hnews; simpa using this
                    subst hnil
                    cases hv with
                    | imm hl hz' hvv hcap =>
                      rename_i vs blk bs cap
                      exact ⟨I, _, w, IN n cap (some ⟨blk, bs, none⟩) hcap w (fun a h => by simp [storeCells]) (fun h => by cases h), .refl hr, .imm hl hz' hvv hcap⟩
                  · cases e
                · -- to a slice of a block
                  rename_i id o n cap
                  split at e
                  · rename_i es' cs hg
                    split at e
                    · rename_i hc
                      obtain ⟨rfl, hb2, ho⟩ := hc
                      have hNone : cs.all AV.one = true := own_one hr hg
                      obtain ⟨B, hB, hBes, arr, tt, fr, a1, a2, a3, a4, a5⟩ := hr.cells id _ _ hg
                      have htk : takeN cs o (n * es') = some ((cs.drop o).take (n * es')) := by
                        unfold takeN; dsimp only; rw [if_pos]; simp; omega
                      obtain ⟨n', olds, x1, x2, hoL, hold, _⟩ := sliceCells_rel (P := P) hr (es := es') hv (cs := (cs.drop o).take (n * es')) (by simp only [sliceCells, hg, if_true, htk])
                      have hol : ((cs.drop o).take (n * es')).length = n * es' := by simp; omega
                      have hnn : n' = n := Nat.eq_of_mul_eq_mul_right hpos (by omega)
                      subst hnn
                      have hall : ((cs.drop o).take (n' * es') ++ new).all AV.one = true := by
                        rw [List.all_append, hno, Bool.and_true]
                        refine all_take ?_ _
                        rw [List.all_eq_true] at hNone ⊢; exact fun a ha => hNone a (List.mem_of_mem_drop ha)
                      have hlall : ((cs.drop o).take (n' * es') ++ new).length = (n' + k) * es' := by rw [List.length_append, hol, hnl, Nat.add_mul]
                      -- a new block, with or without the old one
                      have COPY : ∀ (h2 : AH) (capC : Nat) (off : Nat), Goes I Z h w I Z h2 w → capC < n' + k → (∀ w', w'.heap = w.heap → (Builtin.firstCells es' n' (.slice (some ⟨B.blk, off, none⟩) n' capC)).run P w' = .ok olds.toArray w') →
                          newSlice h2 es' (n' + k) ((cs.drop o).take (n' * es') ++ new) = (r, h') →
                          ∃ J cv w', (Builtin.append_ tys ty #[.slice (some ⟨B.blk, off, none⟩) n' capC, u]).run P w = .ok cv w' ∧ Goes I Z h w J Z h' w' ∧ VRel J Z r cv := by
                        intro h2 capC off hg2 hgt hold e
                        obtain ⟨c, rest, hc1, hc2, hc3⟩ := OUT n' capC (some ⟨B.blk, off, none⟩) olds hb2 hgt hold
                        have hd2 := Goes.drew hg2.rel (w.drawn + 1)
                        obtain ⟨J, w', e1, hgg, hvv⟩ := grown_rel (P := P) (e := el) hd2.rel (n := n' + k) (c := c) (rest := rest) (hoL.append hnL) hall hlall hc1 hc2.1 (fun v hv => hzone v (hc2.2 v hv))
                        rw [e] at hgg hvv
                        exact ⟨J, _, w', hc3 _ _ e1, (hg2.trans hr hd2).trans hr hgg, hvv⟩
                      -- in place
                      have HERE : ∀ (capC : Nat) (h2 : AH), n' + k ≤ capC → putCells h id (o + n' * es') new = some h2 →
                          ∃ w', (Builtin.append_ tys ty #[.slice (some ⟨B.blk, B.d + o, none⟩) n' capC, u]).run P w = .ok (.slice (some ⟨B.blk, B.d + o, none⟩) (n' + k) capC) w' ∧ Goes I Z h w I Z h2 w' := by
                        intro capC h2 hle e
                        obtain ⟨w', e1, hgg⟩ := putCells_rel (P := P) hr e hnL hB
                        refine ⟨w', IN n' capC (some ⟨B.blk, B.d + o, none⟩) hle w' (fun a ha => ?_) (fun h => by cases h), hgg⟩
                        cases ha
                        rw [addr_add, Nat.add_assoc]; exact e1
                      split at e
                      · -- what is behind it may be written, if there is room
                        split at e
                        · rename_i hfit
                          cases hp : putCells h id (o + n' * es') new with
                          | none => simp [hp] at e
                          | some h2 =>
                            simp only [hp, Option.map_some, Option.some.injEq, Prod.mk.injEq] at e
                            obtain ⟨rfl, rfl⟩ := e
                            cases hv with
                            | @own _ _ _ capC _ B' hk' hn hc =>
                              rw [hB] at hk'; cases hk'
                              have hle : n' + k ≤ capC := by
                                simp only [capOk] at hc; rw [hBes] at hc
                                exact cap_bound hpos hc (by omega)
                              obtain ⟨w', e1, hgg⟩ := HERE capC h2 hle hp
                              exact ⟨I, _, w', e1, hgg, .own hB hle hc⟩
                            | @own0 _ _ off _ B' hk' hc =>
                              rw [hB] at hk'; cases hk'
                              have hk0 : k = 0 := by
                                simp only [capOk] at hc
                                have : k * es' = 0 := by simp at hfit; omega
                                rcases Nat.mul_eq_zero.1 this with h | h
                                · exact h
                                · omega
                              subst hk0
                              have hnil : new = [] := by simpa using hnl
                              have hnil' : news = [] := by simpa using hnews
                              subst hnil; subst hnil'
                              exact ⟨I, _, w, IN 0 0 (some ⟨B.blk, off, none⟩) (Nat.le_refl _) w (fun a h => by simp [storeCells]) (fun h => by cases h), putCells_empty hr hp, .own0 hB hc⟩
                        · rename_i hfit
                          simp only [Option.some.injEq] at e
                          cases hv with
                          | @own _ _ _ capC _ B' hk' hn hc =>
                            rw [hB] at hk'; cases hk'
                            by_cases hle : n' + k ≤ capC
                            · -- in place, under a new name
                              have hren := Goes.rename hr hg hB ho
                              simp only [capOk] at hc; rw [hBes] at hc
                              have hNk : B.d + o + (n' + k) * es' ≤ B.N := by
                                have := Nat.mul_le_mul_right es' hle; omega
                              rw [Nat.add_mul] at hNk
                              have hone : ∀ v ∈ news, v.oneCell' = true := fun v hv => by
                                obtain ⟨j, hj, hjv⟩ := List.getElem_of_mem hv
                                have hja : j < new.length := by rw [hnL.1]; exact hj
                                exact one_rel (hnL.2 j new[j] v (List.getElem?_eq_getElem hja) (by rw [List.getElem?_eq_getElem hj, hjv])) (List.all_eq_true.1 hno _ (List.getElem_mem _))
                              obtain ⟨w', s1, b1, b2, b3, b4, b5⟩ := run_storeCells (P := P) news w B.blk (B.d + o + n' * es') 0 arr tt fr a1 (by omega) (fun x h1 h2 => free_of a5.1 (by omega)) hone
                              have hgn : ((h.del id).new (.cells es' ((cs.drop o).take (n' * es')))).get h.next = some (.cells es' ((cs.drop o).take (n' * es'))) := by
                                have := AH.get_new (h.del id) h.next (.cells es' ((cs.drop o).take (n' * es')))
                                simpa using this
                              have hwr := Goes.write hren.rel (w' := w') hgn Inj.put_same b1 b2 b3 b5 a1 b4 (by simp) (fun x hx => by
                                  rw [setAt_get _ _ _ _ (by omega), if_neg (by simp at hx; omega)]) (cs' := (cs.drop o).take (n' * es') ++ new) (by simp only [hlall]; rw [Nat.add_mul]; omega) (fun j a hj => by
                                refine ⟨List.all_eq_true.1 hall a (List.mem_of_getElem? hj), ?_⟩
                                rw [setAt_get _ _ _ _ (by omega)]
                                rw [List.getElem?_append] at hj
                                by_cases hjl : j < n' * es'
                                · rw [if_pos (by omega), List.getElem?_take, if_pos hjl, List.getElem?_drop] at hj
                                  rw [if_neg (by simp; omega)]
                                  obtain ⟨_, v, hv, hvr⟩ := a4 (o + j) a hj
                                  exact ⟨v, by simpa [Nat.add_assoc] using hv, hvr.mono hren.le (.refl _)⟩
                                · rw [if_neg (by omega), hol] at hj
                                  obtain ⟨v, hv, hvr⟩ := hnL.get hj
                                  have hjn : j - n' * es' < news.length := (List.getElem?_eq_some_iff.1 hv).1
                                  rw [if_pos (by simp; omega)]
                                  refine ⟨v, ?_, hvr.mono hren.le (.refl _)⟩
                                  rw [show B.d + o + j - (B.d + o + n' * es' + 0) = j - n' * es' by omega]; exact hv) (fun x v hv => by
                                rw [setAt_get _ _ _ _ (by omega)] at hv
                                split at hv
                                · exact .inr (hone v (List.mem_of_getElem? hv))
                                · exact .inl hv)
                              have hse := AH.set_new (h.del id) (.cells es' ((cs.drop o).take (n' * es'))) (.cells es' ((cs.drop o).take (n' * es') ++ new))
                              simp only [AH.next_del] at hse
                              rw [hse] at hwr
                              obtain ⟨rfl, rfl⟩ := Prod.mk.inj e
                              refine ⟨_, _, w', IN n' capC (some ⟨B.blk, B.d + o, none⟩) hle w' (fun a ha => ?_) (fun h => by cases h), hren.trans hr hwr, ?_⟩
                              · cases ha; rw [addr_add]; exact s1
                              · have : VRel (I.put h.next { B with d := B.d + o }) Z (.own h.next 0 (n' + k) none) (.slice (some ⟨B.blk, B.d + o + 0, none⟩) (n' + k) capC) :=
                                  VRel.own Inj.put_same hle (by simp only [capOk]; rw [hBes]; omega)
                                exact this
                            · exact COPY (h.del id) capC (B.d + o) (Goes.del hr id) (by omega) hold e
                          | @own0 _ _ off _ B' hk' hc =>
                            rw [hB] at hk'; cases hk'
                            refine COPY (h.del id) 0 off (Goes.del hr id) ?_ hold e
                            rcases Nat.eq_zero_or_pos k with h0 | h0
                            · subst h0; exact absurd ho hfit
                            · omega
                      · -- its capacity is known
                        rename_i c
                        split at e
                        · rename_i hle
                          split at e
                          · rename_i hfit
                            cases hp : putCells h id (o + n' * es') new with
                            | none => simp [hp] at e
                            | some h2 =>
                              simp only [hp, Option.map_some, Option.some.injEq, Prod.mk.injEq] at e
                              obtain ⟨rfl, rfl⟩ := e
                              cases hv with
                              | @own _ _ _ capC _ B' hk' hn hc =>
                                rw [hB] at hk'; cases hk'
                                simp only [capOk] at hc; subst hc
                                obtain ⟨w', e1, hgg⟩ := HERE capC h2 hle hp
                                exact ⟨I, _, w', e1, hgg, .own hB hle rfl⟩
                              | @own0 _ _ off _ B' hk' hc =>
                                rw [hB] at hk'; cases hk'
                                simp only [capOk] at hc; subst hc
                                have hk0 : k = 0 := by omega
                                subst hk0
                                have hnil : new = [] := by simpa using hnl
                                have hnil' : news = [] := by simpa using hnews
                                subst hnil; subst hnil'
                                exact ⟨I, _, w, IN 0 0 (some ⟨B.blk, off, none⟩) (Nat.le_refl _) w (fun a h => by simp [storeCells]) (fun h => by cases h), putCells_empty hr hp, .own0 hB rfl⟩
                          · cases e
                        · rename_i hle
                          simp only [Option.some.injEq] at e
                          cases hv with
                          | @own _ _ _ capC _ B' hk' hn hc =>
                            rw [hB] at hk'; cases hk'
                            simp only [capOk] at hc; subst hc
                            exact COPY h capC (B.d + o) (.refl hr) (by omega) hold e
                          | @own0 _ _ off _ B' hk' hc =>
                            rw [hB] at hk'; cases hk'
                            simp only [capOk] at hc; subst hc
                            exact COPY h 0 off (.refl hr) (by omega) hold e
                    · cases e
                  · cases e
                · cases e
              · cases e
      · cases e
    · cases e

end run
end
end Go.Av
