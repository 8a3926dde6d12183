/- PLAIN LAW, no program in sight: a value's field; why a value may not be. -/
namespace Go.Proofs.YtlgokfgbcohioaaDoor.Plain

def vkind (k : Int) : Int := if k = 3 then 5 else if k = 4 then 1 else if k = 6 ∨ k = 7 then 2 else 0
def vtextual (k : Int) : Bool := k == 6 || k == 7
def vlimit (k : Int) : Int := if k = 0 ∨ k = 6 ∨ k = 7 then 0 else if k = 1 ∨ k = 3 then 4294967295 else if k = 5 then 1 else 18446744073709551615
def vgreat (k : Int) (n : Int) : Bool := decide ((k = 1 ∨ k = 3) ∧ 4294967296 ≤ n ∨ k = 5 ∧ 1 < n)
/-- why a value may not be; e: its text is empty -/
def vright (k n : Int) (e : Bool) : Int :=
  if k < 0 ∨ 7 < k then 11 else if vtextual k = false ∧ e = false then 4 else if (k = 0 ∨ k = 6 ∨ k = 7) ∧ 0 < n then 4 else if vlimit k < n then 5 else 0

theorem vright_ref (k : Int) (n : Nat) (E : Bool) (hn : n < 18446744073709551616) : vright k n E =
    if k < 0 ∨ 7 < k then 11 else if (¬ k = 6 ∧ ¬ k = 7) ∧ E = false then 4 else if (k = 0 ∨ k = 6 ∨ k = 7) ∧ ((n : Int) != 0) = true then 4 else if vgreat k n = true then 5 else 0 := by
  unfold vright
  by_cases h1 : k < 0 ∨ 7 < k
  · rw [if_pos h1, if_pos h1]
  rw [if_neg h1, if_neg h1]
  have e : vtextual k = false ↔ ¬ k = 6 ∧ ¬ k = 7 := by unfold vtextual; simp
  by_cases h2 : vtextual k = false ∧ E = false
  · rw [if_pos h2, if_pos ⟨e.1 h2.1, h2.2⟩]
  have h2' : ¬ ((¬ k = 6 ∧ ¬ k = 7) ∧ E = false) := fun h => h2 ⟨e.2 h.1, h.2⟩
  rw [if_neg h2, if_neg h2']
  have e3 : 0 < (n : Int) ↔ ((n : Int) != 0) = true := by simp; omega
  by_cases h3 : (k = 0 ∨ k = 6 ∨ k = 7) ∧ 0 < (n : Int)
  · rw [if_pos h3, if_pos ⟨h3.1, e3.1 h3.2⟩]
  have h3' : ¬ ((k = 0 ∨ k = 6 ∨ k = 7) ∧ ((n : Int) != 0) = true) := fun h => h3 ⟨h.1, e3.2 h.2⟩
  rw [if_neg h3, if_neg h3']
  have e4 : vlimit k < (n : Int) ↔ vgreat k n = true := by
    unfold vlimit vgreat
    rw [decide_eq_true_iff]
    by_cases a : k = 0 ∨ k = 6 ∨ k = 7
    · rw [if_pos a]; constructor
      · intro h; exact absurd ⟨a, h⟩ h3
      · intro h; omega
    · rw [if_neg a]; by_cases b : k = 1 ∨ k = 3
      · rw [if_pos b]; omega
      · rw [if_neg b]; by_cases c : k = 5
        · rw [if_pos c]; omega
        · rw [if_neg c]; omega
  by_cases h4 : vlimit k < (n : Int)
  · rw [if_pos h4, if_pos (e4.1 h4)]
  · have h4' : ¬ vgreat k n = true := fun h => h4 (e4.2 h)
    rw [if_neg h4, if_neg h4']

/-- why a value is not put -/
def verr (k n : Int) (e : Bool) (base : Int) (raw : Bool) : Int :=
  if 1 ≤ base ∧ base ≤ 1000 then (if vright k n e = 0 then (if k = 7 ∧ raw = false then 11 else 0) else vright k n e) else 1
end Go.Proofs.YtlgokfgbcohioaaDoor.Plain
