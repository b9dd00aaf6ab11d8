/-
  Both lanes, side by side, on the abstract machine.
-/
import Derived.Test.YtgiphcfpopgchaaRefB
namespace Go.Proofs.Ytgiphcfpopgchaa
open Go.Av
set_option maxRecDepth 100000
set_option maxHeartbeats 4000000
set_option linter.unusedSimpArgs false
set_option linter.unusedVariables false

theorem Lane.keep {h h' : AH} {p : Nat} {Q : Option Nat} {L : List AV} {c : Cnt} (hl : Lane h p Q L c) (hk : ∀ j, j < h.next → j = p ∨ Q = some j → h'.get j = h.get j) (hn : h.next ≤ h'.next) : Lane h' p Q L c := by
  obtain ⟨S, hp, hs, hlt, hne⟩ := obj_of hl
  exact ⟨⟨S, by rw [hk p hlt (.inl rfl)]; exact hp, hs.keep (fun j e => hk j (by subst e; exact hs.lt) (.inr e)) hn⟩, by omega, hne⟩

theorem Lane.blt {h : AH} {p q : Nat} {L : List AV} {c : Cnt} (hl : Lane h p (some q) L c) : q < h.next := by
  obtain ⟨S, hp, hs, hlt, hne⟩ := obj_of hl
  exact hs.lt

/-- Both lanes hold the same. -/
structure Two (h : AH) (p r : Nat) (Q Qr : Option Nat) (xs : List Int) (c : Cnt) (i : Nat) : Prop where
  a : Lane h p Q (xs.map I) c
  b : Lane h r Qr (xs.map I) c
  ne : p ≠ r
  q1 : Q ≠ some r
  q2 : Qr ≠ some p
  q3 : ∀ q, Q = some q → Qr ≠ some q
  len : xs.length ≤ i
  s : 0 ≤ c.s ∧ c.s ≤ i
  t : 0 ≤ c.t ∧ c.t ≤ i
  d : 0 ≤ c.d ∧ c.d ≤ i
  m : 0 ≤ c.m ∧ c.m ≤ i

theorem Two.cnt {h : AH} {p r : Nat} {Q Qr : Option Nat} {xs : List Int} {c : Cnt} {i : Nat} (o : Two h p r Q Qr xs c i) (hi : i ≤ 100) : c.ok 1000000 := by
  have h1 := o.s; have h2 := o.t; have h3 := o.d; have h4 := o.m
  exact ⟨by omega, by omega, by omega, by omega⟩

theorem Two.stay {h : AH} {p r : Nat} {Q Qr : Option Nat} {xs : List Int} {c : Cnt} {i : Nat} (o : Two h p r Q Qr xs c i) : Two h p r Q Qr xs c (i + 1) := by
  have h1 := o.s; have h2 := o.t; have h3 := o.d; have h4 := o.m; have h5 := o.len
  exact { o with len := by omega, s := by omega, t := by omega, d := by omega, m := by omega }

theorem Two.keep {h h' : AH} {p r : Nat} {Q Qr : Option Nat} {xs : List Int} {c : Cnt} {i : Nat} (o : Two h p r Q Qr xs c i) (hk : ∀ j, j < h.next → h'.get j = h.get j) (hn : h.next ≤ h'.next) : Two h' p r Q Qr xs c i :=
  { o with a := o.a.keep (fun j hj _ => hk j hj) hn, b := o.b.keep (fun j hj _ => hk j hj) hn }

/-- The reference's lane behind a call of the lane. -/
theorem Two.mid {h h1 : AH} {p r : Nat} {Q Qr Q' : Option Nat} {xs : List Int} {c : Cnt} {i : Nat} (o : Two h p r Q Qr xs c i) (f1 : Fm h h1 p Q Q') : Lane h1 r Qr (xs.map I) c :=
  o.b.keep (fun j hj e => f1.keep j hj (by
    rcases e with rfl | rfl
    · exact fun e => o.ne e.symm
    · exact fun e => o.q2 (by rw [e])) (by
    rcases e with rfl | rfl
    · exact o.q1
    · exact fun e => o.q3 _ e rfl)) f1.next

theorem Two.both {h h1 h2 : AH} {p r : Nat} {Q Qr Q' Qr' : Option Nat} {xs ys : List Int} {c c' : Cnt} {i : Nat} (o : Two h p r Q Qr xs c i) (f1 : Fm h h1 p Q Q') (l1 : Lane h1 p Q' (ys.map I) c') (f2 : Fm h1 h2 r Qr Qr') (l2 : Lane h2 r Qr' (ys.map I) c')
    (hlen : ys.length ≤ i + 1) (hs : 0 ≤ c'.s ∧ c'.s ≤ i + 1) (ht : 0 ≤ c'.t ∧ c'.t ≤ i + 1) (hd : 0 ≤ c'.d ∧ c'.d ≤ i + 1) (hm : 0 ≤ c'.m ∧ c'.m ≤ i + 1) : Two h2 p r Q' Qr' ys c' (i + 1) := by
  have hrl : r < h.next := by obtain ⟨_, _, _, hlt, _⟩ := obj_of o.b; exact hlt
  have hpl : p < h.next := by obtain ⟨_, _, _, hlt, _⟩ := obj_of o.a; exact hlt
  have hqr : ∀ q, Qr = some q → q < h.next := fun q e => by have := o.b; subst e; exact this.blt
  have n1 := f1.next
  have n2 := f2.next
  have e1 : Q' ≠ some r := by
    rcases f1.own with rfl | ⟨q, rfl, hq⟩
    · exact o.q1
    · intro e; cases e; omega
  have e3 : ∀ q, Q' = some q → Qr ≠ some q := by
    rcases f1.own with rfl | ⟨q, rfl, hq⟩
    · exact o.q3
    · intro q' e e'; cases e; have := hqr _ e'; omega
  refine ⟨l1.keep (fun j hj e => f2.keep j hj ?_ ?_) n2, l2, o.ne, e1, ?_, ?_, hlen, by simpa using hs, by simpa using ht, by simpa using hd, by simpa using hm⟩
  · rcases e with rfl | rfl
    · exact o.ne
    · exact fun e => e1 (by rw [e])
  · rcases e with rfl | rfl
    · exact o.q2
    · exact e3 _ rfl
  · rcases f2.own with rfl | ⟨q, rfl, hq⟩
    · exact o.q2
    · intro e; cases e; omega
  · rcases f2.own with rfl | ⟨q, rfl, hq⟩
    · exact e3
    · intro q' e e'
      cases e'
      subst e
      have := l1.blt
      omega

theorem map_one (xs : List Int) : (xs.map I).all AV.one = true := by
  rw [List.all_eq_true]
  intro x hx
  obtain ⟨n, _, rfl⟩ := List.mem_map.1 hx
  rfl

theorem map_erase (xs : List Int) (j : Nat) : (xs.map I).eraseIdx j = (xs.eraseIdx j).map I := by
  rw [List.eraseIdx_eq_take_drop_succ, List.eraseIdx_eq_take_drop_succ, List.map_append, List.map_take, List.map_drop]

section
variable {h : AH} {p r a : Nat} {Q Qr : Option Nat} {xs : List Int} {c : Cnt} {i : Nat}

theorem pl0 (o : Two h p r Q Qr xs c i) (hi : i ≤ 100) (ha : a < h.next) (hap : a ≠ p) (haq : Q ≠ some a) (v : Int) (n : Nat) :
    ∃ X h1 h2 Q' Qr' ys c', run E (n + 3) (.call 10 [.p (some (p, 0)), .i .i64 v] h) = some (.ret (.b X) h1) ∧ h1.get a = h.get a ∧ run E (n + 3) (.call 19 [.p (some (r, 0)), .i .i64 v] h1) = some (.ret (.b X) h2) ∧ Two h2 p r Q' Qr' ys c' (i + 1) ∧ h1.next ≤ h2.next ∧ h.next ≤ h1.next := by
  have h1 := o.s; have h2 := o.t; have h3 := o.d; have h4 := o.m; have h5 := o.len
  obtain ⟨Q', h1, r1, l1, f1⟩ := send_run o.a (by simp; omega) (o.cnt hi) (v := I v) rfl (n + 1)
  obtain ⟨Qr', h2, r2, l2, f2⟩ := ref_send (o.mid f1) (by simp; omega) (o.cnt hi) (map_one xs) (v := I v) rfl (n + 2)
  have em : xs.map I ++ [I v] = (xs ++ [v]).map I := by simp
  rw [em] at l1 l2
  exact ⟨true, h1, h2, Q', Qr', _, _, r1, f1.keep a ha hap haq, r2, o.both f1 l1 f2 l2 (by simp; omega) (by simp; omega) (by simp; omega) (by simp; omega) (by simp; omega), f2.next, f1.next⟩

theorem pl1 (o : Two h p r Q Qr xs c i) (hi : i ≤ 100) (ha : a < h.next) (hap : a ≠ p) (haq : Q ≠ some a) (k : Int) (n : Nat) :
    ∃ z X h1 h2 Q' Qr' ys c', run E (n + 3) (.call 14 [.p (some (p, 0)), .i .i64 k] h) = some (.ret (.tup [.i .i64 z, .b X]) h1) ∧ h1.get a = h.get a ∧ run E (n + 3) (.call 20 [.p (some (r, 0)), .i .i64 k] h1) = some (.ret (.tup [.i .i64 z, .b X]) h2) ∧ Two h2 p r Q' Qr' ys c' (i + 1) ∧ h1.next ≤ h2.next ∧ h.next ≤ h1.next := by
  have h1 := o.s; have h2 := o.t; have h3 := o.d; have h4 := o.m; have h5 := o.len
  by_cases hk : 0 ≤ k ∧ k < (xs.length : Int)
  · obtain ⟨j, rfl⟩ : ∃ j : Nat, k = j := ⟨k.toNat, by omega⟩
    have hj : j < xs.length := by omega
    have hj' : j < (xs.map I).length := by simpa using hj
    have hlen : (xs.eraseIdx j).length = xs.length - 1 := by rw [List.length_eraseIdx, if_pos hj]
    obtain ⟨h1, r1, l1, f1⟩ := take_run o.a (by simp; omega) (o.cnt hi) hj' n
    obtain ⟨Qr', h2, r2, l2, f2⟩ := ref_take (o.mid f1) (by simp; omega) (map_one xs) (o.cnt hi) hj' (n + 1)
    rw [map_erase] at l1 l2
    rw [List.getElem_map] at r1 r2
    exact ⟨xs[j], true, h1, h2, Q, Qr', _, _, r1, f1.keep a ha hap haq, r2, o.both f1 l1 f2 l2 (by rw [hlen]; omega) (by simp; omega) (by simp; omega) (by simp; omega) (by simp; omega), f2.next, f1.next⟩
  · exact ⟨0, false, h, h, Q, Qr, xs, c, take_none o.a (by simpa using hk) n, rfl, ref_take_none o.b (by simpa using hk) (n + 1), o.stay, Nat.le_refl _, Nat.le_refl _⟩

theorem pl2 (o : Two h p r Q Qr xs c i) (hi : i ≤ 100) (ha : a < h.next) (hap : a ≠ p) (haq : Q ≠ some a) (k : Int) (n : Nat) :
    ∃ X h1 h2 Q' Qr' ys c', run E (n + 3) (.call 16 [.p (some (p, 0)), .i .i64 k] h) = some (.ret (.b X) h1) ∧ h1.get a = h.get a ∧ run E (n + 3) (.call 21 [.p (some (r, 0)), .i .i64 k] h1) = some (.ret (.b X) h2) ∧ Two h2 p r Q' Qr' ys c' (i + 1) ∧ h1.next ≤ h2.next ∧ h.next ≤ h1.next := by
  have h1 := o.s; have h2 := o.t; have h3 := o.d; have h4 := o.m; have h5 := o.len
  by_cases hk : 0 ≤ k ∧ k < (xs.length : Int)
  · obtain ⟨j, rfl⟩ : ∃ j : Nat, k = j := ⟨k.toNat, by omega⟩
    have hj : j < xs.length := by omega
    have hj' : j < (xs.map I).length := by simpa using hj
    have hlen : (xs.eraseIdx j).length = xs.length - 1 := by rw [List.length_eraseIdx, if_pos hj]
    obtain ⟨h1, r1, l1, f1⟩ := drop_run o.a (by simp; omega) (o.cnt hi) hj' n
    obtain ⟨Qr', h2, r2, l2, f2⟩ := ref_drop (o.mid f1) (by simp; omega) (map_one xs) (o.cnt hi) hj' (n + 1)
    rw [map_erase] at l1 l2
    exact ⟨true, h1, h2, Q, Qr', _, _, r1, f1.keep a ha hap haq, r2, o.both f1 l1 f2 l2 (by rw [hlen]; omega) (by simp; omega) (by simp; omega) (by simp; omega) (by simp; omega), f2.next, f1.next⟩
  · exact ⟨false, h, h, Q, Qr, xs, c, drop_none o.a (by simpa using hk) n, rfl, ref_drop_none o.b (by simpa using hk) (n + 1), o.stay, Nat.le_refl _, Nat.le_refl _⟩

theorem pl3 (o : Two h p r Q Qr xs c i) (hi : i ≤ 100) (ha : a < h.next) (hap : a ≠ p) (haq : Q ≠ some a) (k : Int) (n : Nat) :
    ∃ X h1 h2 Q' Qr' ys c', run E (n + 3) (.call 17 [.p (some (p, 0)), .i .i64 k] h) = some (.ret (.b X) h1) ∧ h1.get a = h.get a ∧ run E (n + 3) (.call 22 [.p (some (r, 0)), .i .i64 k] h1) = some (.ret (.b X) h2) ∧ Two h2 p r Q' Qr' ys c' (i + 1) ∧ h1.next ≤ h2.next ∧ h.next ≤ h1.next := by
  have h1 := o.s; have h2 := o.t; have h3 := o.d; have h4 := o.m; have h5 := o.len
  by_cases hk : 0 ≤ k ∧ k < (xs.length : Int)
  · obtain ⟨j, rfl⟩ : ∃ j : Nat, k = j := ⟨k.toNat, by omega⟩
    have hj : j < xs.length := by omega
    have hj' : j < (xs.map I).length := by simpa using hj
    obtain ⟨Q', h1, r1, l1, f1⟩ := double_run o.a (by simp; omega) (o.cnt hi) (map_one xs) hj' n
    obtain ⟨Qr', h2, r2, l2, f2⟩ := ref_double (o.mid f1) (by simp; omega) (map_one xs) (o.cnt hi) hj' (by rw [List.getElem_map]; simp [I, AV.beq]) (n + 2)
    have em : xs.map I ++ [(xs.map I)[j]] = (xs ++ [xs[j]]).map I := by simp
    rw [em] at l1 l2
    exact ⟨true, h1, h2, Q', Qr', _, _, r1, f1.keep a ha hap haq, r2, o.both f1 l1 f2 l2 (by simp; omega) (by simp; omega) (by simp; omega) (by simp; omega) (by simp; omega), f2.next, f1.next⟩
  · exact ⟨false, h, h, Q, Qr, xs, c, double_none o.a (by simpa using hk) n, rfl, ref_double_none o.b (by simpa using hk) (n + 2), o.stay, Nat.le_refl _, Nat.le_refl _⟩

theorem pl4 (o : Two h p r Q Qr xs c i) (hi : i ≤ 100) (ha : a < h.next) (hap : a ≠ p) (haq : Q ≠ some a) (k : Int) (n : Nat) :
    ∃ X h1 h2 Q' Qr' ys c', run E (n + 3) (.call 11 [.p (some (p, 0)), .i .i64 k] h) = some (.ret (.b X) h1) ∧ h1.get a = h.get a ∧ run E (n + 3) (.call 23 [.p (some (r, 0)), .i .i64 k] h1) = some (.ret (.b X) h2) ∧ Two h2 p r Q' Qr' ys c' (i + 1) ∧ h1.next ≤ h2.next ∧ h.next ≤ h1.next := by
  have h1 := o.s; have h2 := o.t; have h3 := o.d; have h4 := o.m; have h5 := o.len
  by_cases hk : 0 ≤ k ∧ k < (xs.length : Int)
  · obtain ⟨j, rfl⟩ : ∃ j : Nat, k = j := ⟨k.toNat, by omega⟩
    have hj : j < xs.length := by omega
    have hj' : j < (xs.map I).length := by simpa using hj
    have hlen : (xs.eraseIdx j).length = xs.length - 1 := by rw [List.length_eraseIdx, if_pos hj]
    obtain ⟨Q', h1, r1, l1, f1⟩ := hold_run o.a (by simp; omega) (map_one xs) hj' n
    obtain ⟨Qr', h2, r2, l2, f2⟩ := ref_hold (o.mid f1) (by simp; omega) (map_one xs) hj' (n + 1)
    have em : (xs.map I).eraseIdx j ++ [(xs.map I)[j]] = (xs.eraseIdx j ++ [xs[j]]).map I := by rw [map_erase]; simp
    rw [em] at l1 l2
    exact ⟨true, h1, h2, Q', Qr', _, _, r1, f1.keep a ha hap haq, r2, o.both f1 l1 f2 l2 (by simp [hlen]; omega) (by omega) (by omega) (by omega) (by omega), f2.next, f1.next⟩
  · exact ⟨false, h, h, Q, Qr, xs, c, hold_none o.a (by simpa using hk) n, rfl, ref_hold_none o.b (by simpa using hk) (n + 1), o.stay, Nat.le_refl _, Nat.le_refl _⟩
end
end Go.Proofs.Ytgiphcfpopgchaa
