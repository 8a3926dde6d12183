/- PLAIN LAW: properties that were put are told again. -/
import Derived.Test.YtanfnjlndckhkaaDoorK6
import Derived.Test.YtanfnjlndckhkaaDoorDsBpM
namespace Go.Proofs.YtanfnjlndckhkaaDoor
open Go.RowKit Plain

theorem ptakes_ahead {t : Nat} (ht : t < 4294967296) (n : Bool) (l : List Fld) : ptakes (pahead t n ++ l) PSt.zero = ptakes l ⟨t, n, VV.zero, ⟨#[]⟩⟩ := by
  have h : ¬ 4294967295 < t := by omega
  unfold pahead
  by_cases h0 : t = 0
  · subst h0
    cases n
    · rfl
    · simp [ptakes, ptake, pnum, PSt.zero]
  · cases n
    · simp [ptakes, ptake, pnum, PSt.zero, h0, h]
    · simp [ptakes, ptake, pnum, PSt.zero, h0, h]
theorem ptakes_val {v : VV} (hn : v.n < 18446744073709551616) (h : verr v.k v.n v.s.toList.isEmpty 3 false = 0) (t : Nat) (n : Bool) : ptakes (vfls v.k v.n v.s 3 false) ⟨t, n, VV.zero, ⟨#[]⟩⟩ = (⟨t, n, v, ⟨#[]⟩⟩, 0) := by
  have hb := vof_back (base := 3) (raw := false) hn h
  obtain ⟨h1, h2, h3⟩ := verr_right h
  by_cases h0 : v.k = 0
  · rw [show vfls v.k v.n v.s 3 false = [] by unfold vfls; rw [if_neg (fun h => h.2 h0)]] at hb ⊢
    have : v = VV.zero := by
      have := congrArg Prod.fst hb
      simpa [vof, vofs] using this.symm
    rw [this]; rfl
  · have h7 : ¬ v.k = 7 := by
      intro h7
      unfold verr at h
      rw [if_pos (by omega), if_pos h1, if_pos ⟨h7, rfl⟩] at h
      exact absurd h (by decide)
    have hbd := vright_bd h1
    have hl : vfls v.k v.n v.s 3 false = [vfld v.k v.n v.s 3] := by unfold vfls; rw [if_pos ⟨h, h0⟩]
    have hnum : (vfld v.k v.n v.s 3).num = 3 + v.k - 1 := rfl
    rw [hl] at hb ⊢
    have hp : ptake (vfld v.k v.n v.s 3) ⟨t, n, VV.zero, ⟨#[]⟩⟩ = (⟨t, n, v, ⟨#[]⟩⟩, 0) := by
      unfold ptake
      rw [if_neg (by omega), if_neg (by omega), if_neg (by omega), if_pos (by omega), hb]
    rw [ptakes, hp]
    rfl
theorem vv_eq {v : VV} (h8 : v.k = 8) (hb : pbad v 0 = false) : v = ⟨8, 0, ⟨#[]⟩⟩ := by
  obtain ⟨k, n, ⟨⟨s⟩⟩⟩ := v
  simp only at h8
  subst h8
  unfold pbad at hb
  simp only [if_pos] at hb
  simp at hb
  obtain ⟨rfl, h⟩ := hb
  simp_all
/-- a property's value that was put is told again -/
theorem pitem_back {rec : List UInt8 → Ps × Int} {t : Nat} {n : Bool} {v : VV} {m : Ps} {sub : List UInt8 × Int} (key : ByteArray) (ht : t < 4294967296) (hv : VVOk v)
    (hr : sub.2 = 0 → rec sub.1 = (m.strip, 0)) (h : (ptell t n v m.list.length sub).2 = 0) : pitem rec key ⟨(ptell t n v m.list.length sub).1.toArray⟩ = (⟨key, t, n, v, none, 0, m.strip⟩, 0) := by
  unfold ptell at h ⊢
  by_cases hb : pbad v m.list.length = true
  · rw [if_pos hb] at h; exact absurd h (by decide)
  rw [if_neg hb] at h ⊢
  by_cases h8 : v.k = 8
  · rw [if_pos h8] at h ⊢
    by_cases hs : sub.2 = 0
    · rw [if_pos hs] at h ⊢
      have hw : wof (wput (pahead t n ++ [⟨9, 2, 0, ⟨sub.1.toArray⟩⟩])).1 = (pahead t n ++ [⟨9, 2, 0, ⟨sub.1.toArray⟩⟩], 0) := by
        refine wput_back ?_ h
        intro f hf
        rcases List.mem_append.1 hf with hf | hf
        · exact pahead_ok ht n f hf
        · obtain rfl : f = _ := by simpa using hf
          exact ⟨by simp, by simp, by simp⟩
      have hvv : v = ⟨8, 0, ⟨#[]⟩⟩ := vv_eq h8 (by simpa [pbad, h8] using hb)
      have hp : ptakes (pahead t n ++ [⟨9, 2, 0, ⟨sub.1.toArray⟩⟩]) PSt.zero = (⟨t, n, v, ⟨sub.1.toArray⟩⟩, 0) := by
        rw [ptakes_ahead ht, hvv]
        rfl
      unfold pitem
      simp only [hw, hp]
      rw [if_pos trivial, if_pos trivial, if_pos h8, hr hs, if_pos rfl]
    · rw [if_neg hs] at h; exact absurd h hs
  · rw [if_neg h8] at h ⊢
    by_cases he : verr v.k v.n v.s.toList.isEmpty 3 false = 0
    · rw [if_pos he] at h ⊢
      have hw : wof (wput (pahead t n ++ vfls v.k v.n v.s 3 false)).1 = (pahead t n ++ vfls v.k v.n v.s 3 false, 0) := by
        refine wput_back ?_ h
        intro f hf
        rcases List.mem_append.1 hf with hf | hf
        · exact pahead_ok ht n f hf
        · exact (vfls_ok hv.2.2 he).2.1 f hf
      have hp : ptakes (pahead t n ++ vfls v.k v.n v.s 3 false) PSt.zero = (⟨t, n, v, ⟨#[]⟩⟩, 0) := by
        rw [ptakes_ahead ht]
        exact ptakes_val hv.2.2 he t n
      have hm : m = .nil := by
        cases m with
        | nil => rfl
        | cons k' t' n' v' a' c' s' r' => exact absurd (by simp [pbad, h8, Ps.list]) hb
      subst hm
      unfold pitem
      simp only [hw, hp]
      rw [if_pos trivial, if_pos trivial, if_neg h8]
      rfl
    · rw [if_neg he] at h; exact absurd h he
theorem perrs_mem {r : List (List UInt8 × Int)} (h : perrs r = 0) : ∀ v ∈ r, v.2 = 0 := by
  induction r with
  | nil => intro v hv; cases hv
  | cons x l ih =>
    rw [perrs] at h
    by_cases h0 : x.2 = 0
    · rw [if_pos h0] at h
      intro v hv
      rcases List.mem_cons.1 hv with rfl | hv
      · exact h0
      · exact ih h v hv
    · rw [if_neg h0] at h; exact absurd h h0
theorem ferr_zeroP {l : List Int} (h : ∀ x ∈ l, x = 0) : ferr l = 0 := by
  induction l with
  | nil => rfl
  | cons x l ih =>
    rw [ferr, if_pos (h x (by simp))]
    exact ih fun y hy => h y (by simp [hy])
theorem zipWith_maps {α β γ δ : Type} (f : β → γ → δ) (g : α → β) (h : α → γ) : ∀ l : List α, List.zipWith f (l.map g) (l.map h) = l.map fun p => f (g p) (h p) := by
  intro l
  induction l with
  | nil => rfl
  | cons x l ih => simp [ih]
theorem Ps.strip_build : ∀ l : Ps, l.strip = Ps.build (l.list.map Pn.strip) := by
  intro l
  induction l with
  | nil => rfl
  | cons k t n v a c s r ih1 ih2 => rw [Ps.strip, ih2]; rfl
/-- what was put is told again, but for where it lies -/
theorem Ps.put_back : ∀ (l : Ps) (n d : Nat), n + d = 9 → l.Ok → (l.put d).2 = 0 → pofn n (l.put d).1 = (l.strip, 0) := by
  refine Ps.ind fun l ih n d hnd hok h => ?_
  rw [Ps.put_list] at h ⊢
  by_cases hd : 8 < d
  · rw [if_pos hd] at h; exact absurd h (by decide)
  rw [if_neg hd] at h ⊢
  by_cases hl : 32 < l.list.length
  · rw [if_pos hl] at h; exact absurd h (by decide)
  rw [if_neg hl] at h ⊢
  by_cases hp : perrs (l.list.map fun p => p.tell d) = 0
  rotate_left
  · rw [if_neg hp] at h; exact absurd h hp
  rw [if_pos hp] at h ⊢
  have hm := Ps.ok_mem hok
  obtain ⟨m, rfl⟩ : ∃ m, n = m + 1 := ⟨n - 1, by omega⟩
  have hw : wof (wput (l.list.map (fun p => pkfl p.key) ++ l.list.map (fun p => pvfl (p.tell d)))).1 = (l.list.map (fun p => pkfl p.key) ++ l.list.map (fun p => pvfl (p.tell d)), 0) := by
    refine wput_back ?_ h
    intro f hf
    rcases List.mem_append.1 hf with hf | hf
    · obtain ⟨p, _, rfl⟩ := List.mem_map.1 hf
      exact ⟨by simp [pkfl], by simp [pkfl], by simp [pkfl]⟩
    · obtain ⟨p, _, rfl⟩ := List.mem_map.1 hf
      exact ⟨by simp [pvfl], by simp [pvfl], by simp [pvfl]⟩
  have h1 : wall 1 (l.list.map (fun p => pkfl p.key) ++ l.list.map (fun p => pvfl (p.tell d))) = l.list.map (fun p => pkfl p.key) := by
    rw [wall_app, wall_same (fun f hf => by obtain ⟨p, _, rfl⟩ := List.mem_map.1 hf; rfl), wall_other (fun f hf => by obtain ⟨p, _, rfl⟩ := List.mem_map.1 hf; simp [pvfl]), List.append_nil]
  have h2 : wall 2 (l.list.map (fun p => pkfl p.key) ++ l.list.map (fun p => pvfl (p.tell d))) = l.list.map (fun p => pvfl (p.tell d)) := by
    rw [wall_app, wall_other (fun f hf => by obtain ⟨p, _, rfl⟩ := List.mem_map.1 hf; simp [pkfl]), wall_same (fun f hf => by obtain ⟨p, _, rfl⟩ := List.mem_map.1 hf; rfl), List.nil_append]
  have h3 : phalves (l.list.map (fun p => pkfl p.key) ++ l.list.map (fun p => pvfl (p.tell d))) = 0 := by
    unfold phalves
    rw [if_pos (ferr_zeroP fun x hx => by
      obtain ⟨f, hf, rfl⟩ := List.mem_map.1 hx
      rcases List.mem_append.1 hf with hf | hf
      · obtain ⟨p, _, rfl⟩ := List.mem_map.1 hf; simp [phalf, pkfl]
      · obtain ⟨p, _, rfl⟩ := List.mem_map.1 hf; simp [phalf, pvfl]), h1, h2, List.length_map, List.length_map, if_neg (by omega), if_pos rfl]
  have h4 : pitems (pofn m) (l.list.map (fun p => pkfl p.key) ++ l.list.map (fun p => pvfl (p.tell d))) = l.list.map fun p => (p.strip, (0 : Int)) := by
    unfold pitems
    rw [h1, h2, zipWith_maps]
    refine List.map_congr_left fun p hp2 => ?_
    obtain ⟨o1, o2, o3, o4⟩ := hm p hp2
    exact pitem_back p.key o1 o2 (fun hs => ih p hp2 m (d + 1) (by omega) o4 hs) (perrs_mem hp _ (List.mem_map.2 ⟨p, hp2, rfl⟩))
  rw [pofn]
  simp only [hw, h3, h4]
  rw [if_pos trivial, if_pos trivial, if_pos (ferr_zeroP fun x hx => by simp at hx; exact hx.2.symm), List.map_map, Ps.strip_build l]
  rfl
theorem ptell_sub {t : Nat} {n : Bool} {v : VV} {len : Nat} {sub : List UInt8 × Int} (h : (ptell t n v len sub).2 = 0) (h8 : v.k = 8) : sub.2 = 0 := by
  unfold ptell at h
  by_cases hb : pbad v len = true
  · rw [if_pos hb] at h; exact absurd h (by decide)
  rw [if_neg hb, if_pos h8] at h
  by_cases hs : sub.2 = 0
  · exact hs
  · rw [if_neg hs] at h; exact absurd h hs
theorem pdeep_le {l : List Pn} {n : Nat} (h : ∀ p ∈ l, pone p.v p.sub.depth ≤ n) : pdeep l ≤ n := by
  induction l with
  | nil => exact Nat.zero_le _
  | cons p l ih =>
    rw [pdeep]
    have h1 := h p (by simp)
    have h2 := ih fun q hq => h q (by simp [hq])
    omega
/-- what can be put is not too deep -/
theorem Ps.put_depth : ∀ (l : Ps) (n d : Nat), n + d = 9 → (l.put d).2 = 0 → l.depth ≤ n := by
  refine Ps.ind fun l ih n d hnd h => ?_
  rw [Ps.put_list] at h
  by_cases hd : 8 < d
  · rw [if_pos hd] at h; exact absurd h (by decide)
  rw [if_neg hd] at h
  by_cases hl : 32 < l.list.length
  · rw [if_pos hl] at h; exact absurd h (by decide)
  rw [if_neg hl] at h
  by_cases hp : perrs (l.list.map fun p => p.tell d) = 0
  rotate_left
  · rw [if_neg hp] at h; exact absurd h hp
  rw [Ps.depth_list]
  refine pdeep_le fun p hp2 => ?_
  unfold pone
  by_cases h8 : p.v.k = 8
  · rw [if_pos h8]
    have hs := ptell_sub (perrs_mem hp _ (List.mem_map.2 ⟨p, hp2, rfl⟩)) h8
    by_cases hd8 : 8 < d + 1
    · rw [Ps.put_list, if_pos hd8] at hs; exact absurd hs (by decide)
    · have := ih p hp2 (n - 1) (d + 1) (by omega) hs
      omega
  · rw [if_neg h8]; omega
theorem Ps.put_bad (l : Ps) (d : Nat) (h : ¬ (l.put d).2 = 0) : (l.put d).1 = [] := by
  rw [Ps.put_list] at h ⊢
  split
  · rfl
  · split
    · rfl
    · rename_i h1 h2
      rw [if_neg h1, if_neg h2] at h
      split
      · rename_i h3; rw [if_pos h3] at h; exact wput_bad h
      · rfl
end Go.Proofs.YtanfnjlndckhkaaDoor
