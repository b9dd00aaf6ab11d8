/-
  A table keyed by numbers, as a tree of their bits. Its readings are told by the eliminators themselves: the kernel reduces these fast.
-/
namespace Go.Av
set_option linter.unusedSimpArgs false
set_option linter.unusedVariables false

inductive Tr (α : Type) where
  | lf
  | nd (v : Option α) (l r : Tr α)
  deriving Inhabited

noncomputable section
variable {α : Type}

def Tr.get (t : Tr α) : Nat → Option α :=
  Tr.rec (motive := fun _ => Nat → Option α) (fun _ => none)
    (fun v _ _ il ir k => Nat.rec (motive := fun _ => Option α) v (fun j _ => Nat.rec (motive := fun _ => Option α) (il (Nat.div j 2)) (fun _ _ => ir (Nat.div j 2)) (Nat.mod j 2)) k) t

def Tr.val : Tr α → Option α := Tr.rec (motive := fun _ => Option α) none (fun v _ _ _ _ => v)
def Tr.left : Tr α → Tr α := Tr.rec (motive := fun _ => Tr α) .lf (fun _ l _ _ _ => l)
def Tr.right : Tr α → Tr α := Tr.rec (motive := fun _ => Tr α) .lf (fun _ _ r _ _ => r)

def Tr.setA (v : Option α) (n : Nat) : Tr α → Nat → Tr α :=
  Nat.rec (motive := fun _ => Tr α → Nat → Tr α) (fun t _ => t)
    (fun _ ih t k => Nat.rec (motive := fun _ => Tr α) (.nd v t.left t.right)
      (fun j _ => Nat.rec (motive := fun _ => Tr α) (.nd t.val (ih t.left (Nat.div j 2)) t.right) (fun _ _ => .nd t.val t.left (ih t.right (Nat.div j 2))) (Nat.mod j 2)) k) n

def Tr.set (t : Tr α) (k : Nat) (v : Option α) : Tr α := Tr.setA v (Nat.succ k) t k
end

variable {α : Type}
theorem Tr.get_lf (k : Nat) : (Tr.lf : Tr α).get k = none := rfl
theorem Tr.get_zero (v : Option α) (l r : Tr α) : (Tr.nd v l r).get 0 = v := rfl
theorem Tr.get_succ (v : Option α) (l r : Tr α) (j : Nat) : (Tr.nd v l r).get (j + 1) = if j % 2 = 0 then l.get (j / 2) else r.get (j / 2) := by
  show Nat.rec (motive := fun _ => Option α) (l.get (Nat.div j 2)) (fun _ _ => r.get (Nat.div j 2)) (Nat.mod j 2) = _
  show Nat.rec (motive := fun _ => Option α) (l.get (j / 2)) (fun _ _ => r.get (j / 2)) (j % 2) = _
  cases h : j % 2 with
  | zero => rw [if_pos rfl]; rfl
  | succ n => rw [if_neg (by omega)]
theorem Tr.setA_zero (v : Option α) (t : Tr α) (k : Nat) : Tr.setA v 0 t k = t := rfl
theorem Tr.setA_here (v : Option α) (n : Nat) (t : Tr α) : Tr.setA v (n + 1) t 0 = .nd v t.left t.right := rfl
theorem Tr.setA_succ (v : Option α) (n : Nat) (t : Tr α) (j : Nat) : Tr.setA v (n + 1) t (j + 1) = if j % 2 = 0 then .nd t.val (Tr.setA v n t.left (j / 2)) t.right else .nd t.val t.left (Tr.setA v n t.right (j / 2)) := by
  show Nat.rec (motive := fun _ => Tr α) (.nd t.val (Tr.setA v n t.left (j / 2)) t.right) (fun _ _ => .nd t.val t.left (Tr.setA v n t.right (j / 2))) (j % 2) = _
  cases h : j % 2 with
  | zero => rw [if_pos rfl]; rfl
  | succ n => rw [if_neg (by omega)]
theorem Tr.get_parts (t : Tr α) (k : Nat) : t.get k = (Tr.nd t.val t.left t.right).get k := by
  cases t with
  | lf => cases k with
    | zero => rfl
    | succ j => rw [Tr.get_succ]; split <;> rfl
  | nd v l r => rfl

theorem Tr.get_setA (v : Option α) : ∀ (n : Nat) (t : Tr α) (k j : Nat), k < n → (Tr.setA v n t k).get j = if j = k then v else t.get j
  | 0, t, k, j, h => by omega
  | n + 1, t, 0, j, _ => by
    rw [Tr.setA_here, Tr.get_parts t]
    cases j with
    | zero => rw [if_pos rfl]; rfl
    | succ j => rw [if_neg (by omega), Tr.get_succ, Tr.get_succ]
  | n + 1, t, k + 1, j, h => by
    rw [Tr.setA_succ, Tr.get_parts t]
    cases j with
    | zero => rw [if_neg (show ¬ (0 = k + 1) by omega)]; split <;> rfl
    | succ j =>
      split
      · rename_i hk
        rw [Tr.get_succ, Tr.get_succ, Tr.get_setA v n _ _ _ (by omega)]
        split
        · by_cases e : j = k
          · subst e; simp
          · rw [if_neg (show ¬ (j / 2 = k / 2) by omega), if_neg (show ¬ (j + 1 = k + 1) by omega)]
        · rw [if_neg (show ¬ (j + 1 = k + 1) by intro e; omega)]
      · rename_i hk
        rw [Tr.get_succ, Tr.get_succ, Tr.get_setA v n _ _ _ (by omega)]
        split
        · rw [if_neg (show ¬ (j + 1 = k + 1) by intro e; omega)]
        · by_cases e : j = k
          · subst e; simp
          · rw [if_neg (show ¬ (j / 2 = k / 2) by omega), if_neg (show ¬ (j + 1 = k + 1) by omega)]

theorem Tr.get_set (t : Tr α) (k j : Nat) (v : Option α) : (t.set k v).get j = if j = k then v else t.get j := Tr.get_setA v (k + 1) t k j (by omega)

theorem Tr.setA_setA (v u : Option α) : ∀ (n : Nat) (t : Tr α) (k : Nat), Tr.setA v n (Tr.setA u n t k) k = Tr.setA v n t k
  | 0, t, k => rfl
  | n + 1, t, 0 => rfl
  | n + 1, t, k + 1 => by
    rw [Tr.setA_succ u, Tr.setA_succ v, Tr.setA_succ v]
    split
    · show Tr.nd t.val (Tr.setA v n (Tr.setA u n t.left (k / 2)) (k / 2)) t.right = _
      rw [Tr.setA_setA v u n]
    · show Tr.nd t.val t.left (Tr.setA v n (Tr.setA u n t.right (k / 2)) (k / 2)) = _
      rw [Tr.setA_setA v u n]

theorem Tr.set_set (t : Tr α) (k : Nat) (u v : Option α) : (t.set k u).set k v = t.set k v := Tr.setA_setA v u _ t k
end Go.Av
