/- PLAIN LAW: properties within one another, and one level of them too many. -/
import Derived.Test.YtanfnjlndckhkaaDoorPbPM
namespace Go.Proofs.YtanfnjlndckhkaaDoor
open Go.RowKit Plain

theorem wenc_len2 (num : Nat) (text : List UInt8) : (wenc num 2 0 text).length ≤ 20 + text.length := by
  have h1 := vsize_bd (8 * num + 2)
  have h3 := vsize_bd text.length
  simp only [vsize] at h1 h3
  unfold wenc
  rw [if_neg (by omega), if_neg (by omega), if_neg (by omega)]
  simp
  omega
theorem wenc_len0 (num val : Nat) : (wenc num 0 val []).length ≤ 20 := by
  have h1 := vsize_bd (8 * num)
  have h3 := vsize_bd val
  simp only [vsize] at h1 h3
  unfold wenc
  rw [if_pos rfl]
  simp
  omega
/-- fields that can be put, and take few bytes -/
theorem wput_fit {l : List Fld} (h1 : werrs l = 0) (h2 : l.length ≤ 256) (h3 : (wencs l).length ≤ 4096) : wput l = (wencs l, 0) := by
  unfold wput
  rw [if_pos h1, if_neg (by omega), if_neg (by omega)]
theorem werrF_text {n : Int} (h1 : 1 ≤ n) (h2 : n < 1000) (s : ByteArray) : werrF ⟨n, 2, 0, s⟩ = 0 := by
  unfold werrF wwrong
  simp only
  rw [if_neg (by omega), if_neg (by simp), if_neg (by simp), if_neg (by simp)]
theorem wput_text1 {n : Nat} (h1 : 1 ≤ n) (h2 : n < 1000) (L : List UInt8) (hL : L.length ≤ 4000) : wput [⟨n, 2, 0, ⟨L.toArray⟩⟩] = (wenc n 2 0 L, 0) := by
  have hl := wenc_len2 n L
  have e : wencs [⟨n, 2, 0, ⟨L.toArray⟩⟩] = wenc n 2 0 L := by simp [wencs, wencF]
  have hw : werrF ⟨(n : Int), 2, 0, ⟨L.toArray⟩⟩ = 0 := werrF_text (by omega) (by omega) _
  rw [wput_fit (by rw [werrs, if_pos hw]; rfl) (by simp) (by rw [e]; omega), e]
theorem wput_text2 {n m : Nat} (h1 : 1 ≤ n) (h2 : n < 1000) (h3 : 1 ≤ m) (h4 : m < 1000) (K L : List UInt8) (hL : K.length + L.length ≤ 4000) : wput [⟨n, 2, 0, ⟨K.toArray⟩⟩, ⟨m, 2, 0, ⟨L.toArray⟩⟩] = (wenc n 2 0 K ++ wenc m 2 0 L, 0) := by
  have hk := wenc_len2 n K
  have hl := wenc_len2 m L
  have e : wencs [⟨n, 2, 0, ⟨K.toArray⟩⟩, ⟨m, 2, 0, ⟨L.toArray⟩⟩] = wenc n 2 0 K ++ wenc m 2 0 L := by simp [wencs, wencF]
  have hw : werrF ⟨(n : Int), 2, 0, ⟨K.toArray⟩⟩ = 0 := werrF_text (by omega) (by omega) _
  have hw2 : werrF ⟨(m : Int), 2, 0, ⟨L.toArray⟩⟩ = 0 := werrF_text (by omega) (by omega) _
  rw [wput_fit (by rw [werrs, if_pos hw, werrs, if_pos hw2]; rfl) (by simp) (by rw [e]; simp; omega), e]
/-- the bytes of a property that has these bytes as its own properties -/
def wrapv (c : List UInt8) : List UInt8 := wenc 9 2 0 c
def wrapc (c : List UInt8) : List UInt8 := wenc 1 2 0 [98] ++ wenc 2 2 0 (wrapv c)
theorem wrapv_len (c : List UInt8) : (wrapv c).length ≤ 20 + c.length := wenc_len2 9 c
theorem wrapc_len (c : List UInt8) : (wrapc c).length ≤ 70 + c.length := by
  have h1 := wenc_len2 1 [98]
  have h2 := wenc_len2 2 (wrapv c)
  have h3 := wrapv_len c
  simp only [List.length_cons, List.length_nil] at h1
  unfold wrapc
  rw [List.length_append]
  omega
def wraps : Nat → List UInt8 → List UInt8
  | 0, c => c
  | j + 1, c => wrapc (wraps j c)
theorem wraps_len (c : List UInt8) : ∀ j, (wraps j c).length ≤ 70 * j + c.length := by
  intro j
  induction j with
  | zero => simp [wraps]
  | succ j ih => have := wrapc_len (wraps j c); rw [wraps]; omega
theorem wraps_add (c : List UInt8) : ∀ j i, wraps j (wraps i c) = wraps (j + i) c := by
  intro j
  induction j with
  | zero => intro i; rw [Nat.zero_add]; rfl
  | succ j ih => intro i; rw [wraps, ih, Nat.succ_add]; rfl
theorem put_wrapv (c : List UInt8) (hc : c.length ≤ 3000) : wput [⟨9, 2, 0, ⟨c.toArray⟩⟩] = (wrapv c, 0) := wput_text1 (n := 9) (by omega) (by omega) c (by omega)
theorem put_wrapc (c : List UInt8) (hc : c.length ≤ 3000) : wput [⟨1, 2, 0, ⟨#[98]⟩⟩, ⟨2, 2, 0, ⟨(wrapv c).toArray⟩⟩] = (wrapc c, 0) := by
  have h := wrapv_len c
  exact wput_text2 (n := 1) (m := 2) (by omega) (by omega) (by omega) (by omega) [98] (wrapv c) (by simp; omega)
/-- properties within one another -/
def nest (v : Nat) : Nat → Ps
  | 0 => .cons ⟨#[97]⟩ 0 false ⟨1, v, ⟨#[]⟩⟩ none 0 .nil .nil
  | k + 1 => .cons ⟨#[98]⟩ 0 false ⟨8, 0, ⟨#[]⟩⟩ none 0 (nest v k) .nil
theorem nest_len (v k : Nat) : (nest v k).list.length = 1 := by cases k <;> rfl
theorem nest_strip (v : Nat) : ∀ k, (nest v k).strip = nest v k := by
  intro k
  induction k with
  | zero => rfl
  | succ k ih => rw [nest, Ps.strip, ih]; rfl
theorem nest_depth (v : Nat) : ∀ k, (nest v k).depth = k + 1 := by
  intro k
  induction k with
  | zero => rfl
  | succ k ih =>
    rw [nest, Ps.depth, ih]
    show max (pone _ _) (Ps.nil).depth = _
    simp only [pone, Ps.depth, if_pos]
    omega
theorem nest_ok {v : Nat} (hv : v < 4294967296) : ∀ k, (nest v k).Ok := by
  intro k
  induction k with
  | zero => exact ⟨by omega, ⟨by simp, by simp, by simp; omega⟩, by simp [Ps.list], trivial, trivial⟩
  | succ k ih => exact ⟨by omega, ⟨by simp, by simp, by simp⟩, by rw [nest_len]; omega, ih, trivial⟩
theorem nest_too (v : Nat) : ∀ k d, 8 < d + k → (nest v k).put d = ([], 12) := by
  intro k
  induction k with
  | zero => intro d h; rw [Ps.put_list, if_pos (by omega)]
  | succ k ih =>
    intro d h
    rw [Ps.put_list]
    by_cases hd : 8 < d
    · rw [if_pos hd]
    · have e : (nest v (k + 1)).list = [⟨⟨#[98]⟩, 0, false, ⟨8, 0, ⟨#[]⟩⟩, none, 0, nest v k⟩] := rfl
      have t : Pn.tell ⟨⟨#[98]⟩, 0, false, ⟨8, 0, ⟨#[]⟩⟩, none, 0, nest v k⟩ d = ([], 12) := by
        unfold Pn.tell ptell
        simp only [nest_len, ih (d + 1) (by omega)]
        rw [if_neg (by simp [pbad, ByteArray.toList_eq]), if_pos trivial, if_neg (by decide)]
      rw [if_neg hd, e, if_neg (by simp)]
      simp only [List.map_cons, List.map_nil, t]
      rfl
/-- the bytes of the innermost one -/
def leafc (v : Nat) : List UInt8 := wenc 1 2 0 [97] ++ wenc 2 2 0 (wenc 3 0 v [])
theorem leafc_len (v : Nat) : (leafc v).length ≤ 100 := by
  have h1 := wenc_len2 1 [97]
  have h2 := wenc_len2 2 (wenc 3 0 v [])
  have h3 := wenc_len0 3 v
  simp only [List.length_cons, List.length_nil] at h1
  unfold leafc
  rw [List.length_append]
  omega
theorem nest_put {v : Nat} (hv : v < 4294967296) : ∀ k d, d + k ≤ 8 → (nest v k).put d = (wraps k (leafc v), 0) := by
  intro k
  induction k with
  | zero =>
    intro d h
    have hl := wenc_len0 3 v
    have e : (nest v 0).list = [⟨⟨#[97]⟩, 0, false, ⟨1, v, ⟨#[]⟩⟩, none, 0, .nil⟩] := rfl
    have hr : verr 1 v (⟨#[]⟩ : ByteArray).toList.isEmpty 3 false = 0 := by
      unfold verr vright vlimit vtextual
      simp [ByteArray.toList_eq]
      omega
    have t : Pn.tell ⟨⟨#[97]⟩, 0, false, ⟨1, v, ⟨#[]⟩⟩, none, 0, .nil⟩ d = (wenc 3 0 v [], 0) := by
      unfold Pn.tell ptell
      simp only [hr]
      rw [if_neg (by simp [pbad, Ps.list]), if_neg (by decide), if_pos trivial]
      have e2 : vfls 1 v ⟨#[]⟩ 3 false = [⟨3, 0, v, ⟨#[]⟩⟩] := by
        unfold vfls
        rw [if_pos ⟨hr, by decide⟩]
        rfl
      have e3 : wencs [⟨3, 0, v, ⟨#[]⟩⟩] = wenc 3 0 v [] := by simp [wencs, wencF]
      rw [e2]
      show wput [⟨3, 0, v, ⟨#[]⟩⟩] = _
      have e4 : werrF ⟨3, 0, v, ⟨#[]⟩⟩ = 0 := by
        unfold werrF wwrong
        simp [ByteArray.toList_eq]
      rw [wput_fit (by rw [werrs, if_pos e4]; rfl) (by simp) (by rw [e3]; omega), e3]
    rw [Ps.put_list, if_neg (by omega), e, if_neg (by simp)]
    simp only [List.map_cons, List.map_nil, t]
    show (if perrs [(wenc 3 0 v [], (0 : Int))] = 0 then wput [⟨1, 2, 0, ⟨#[97]⟩⟩, ⟨2, 2, 0, ⟨(wenc 3 0 v []).toArray⟩⟩] else _) = _
    rw [if_pos (show perrs [(_, (0 : Int))] = 0 from rfl)]
    exact wput_text2 (n := 1) (m := 2) (by omega) (by omega) (by omega) (by omega) [97] (wenc 3 0 v []) (by simp; omega)
  | succ k ih =>
    intro d h
    have hl := wraps_len (leafc v) k
    have hl2 := leafc_len v
    have e : (nest v (k + 1)).list = [⟨⟨#[98]⟩, 0, false, ⟨8, 0, ⟨#[]⟩⟩, none, 0, nest v k⟩] := rfl
    have t : Pn.tell ⟨⟨#[98]⟩, 0, false, ⟨8, 0, ⟨#[]⟩⟩, none, 0, nest v k⟩ d = (wrapv (wraps k (leafc v)), 0) := by
      unfold Pn.tell ptell
      simp only [nest_len, ih (d + 1) (by omega)]
      rw [if_neg (by simp [pbad, ByteArray.toList_eq]), if_pos trivial, if_pos trivial]
      exact put_wrapv _ (by omega)
    rw [Ps.put_list, if_neg (by omega), e, if_neg (by simp)]
    simp only [List.map_cons, List.map_nil, t]
    show (if perrs [(wrapv (wraps k (leafc v)), (0 : Int))] = 0 then wput [⟨1, 2, 0, ⟨#[98]⟩⟩, ⟨2, 2, 0, ⟨(wrapv (wraps k (leafc v))).toArray⟩⟩] else _) = _
    rw [if_pos (show perrs [(_, (0 : Int))] = 0 from rfl)]
    exact put_wrapc _ (by omega)
/-- one level too many -/
theorem wraps_deep (c : List UInt8) : ∀ n j, n ≤ j → 70 * j + c.length ≤ 3000 → pofn n (wraps j c) = (.nil, 12) := by
  intro n
  induction n with
  | zero => intro j _ _; rfl
  | succ n ih =>
    intro j hj hl
    obtain ⟨i, rfl⟩ : ∃ i, j = i + 1 := ⟨j - 1, by omega⟩
    have hi := ih i (by omega) (by omega)
    have hw := wraps_len c i
    have hv := put_wrapv (wraps i c) (by omega)
    have hc := put_wrapc (wraps i c) (by omega)
    have w1 : wof (wrapc (wraps i c)) = ([⟨1, 2, 0, ⟨#[98]⟩⟩, ⟨2, 2, 0, ⟨(wrapv (wraps i c)).toArray⟩⟩], 0) := by
      have := wput_back (l := [⟨1, 2, 0, ⟨#[98]⟩⟩, ⟨2, 2, 0, ⟨(wrapv (wraps i c)).toArray⟩⟩]) (by
        intro f hf
        simp at hf
        rcases hf with rfl | rfl <;> exact ⟨by simp, by simp, by simp⟩) (by rw [hc])
      rwa [hc] at this
    have w2 : wof (wrapv (wraps i c)) = ([⟨9, 2, 0, ⟨(wraps i c).toArray⟩⟩], 0) := by
      have := wput_back (l := [⟨9, 2, 0, ⟨(wraps i c).toArray⟩⟩]) (by
        intro f hf
        simp at hf
        subst hf
        exact ⟨by simp, by simp, by simp⟩) (by rw [hv])
      rwa [hv] at this
    have p1 : pitems (pofn n) [⟨1, 2, 0, ⟨#[98]⟩⟩, ⟨2, 2, 0, ⟨(wrapv (wraps i c)).toArray⟩⟩] = [(Pn.zero, 12)] := by
      show [pitem (pofn n) ⟨#[98]⟩ ⟨(wrapv (wraps i c)).toArray⟩] = _
      have pt : ptakes [⟨9, 2, 0, ⟨(wraps i c).toArray⟩⟩] PSt.zero = (⟨0, false, ⟨8, 0, ⟨#[]⟩⟩, ⟨(wraps i c).toArray⟩⟩, 0) := rfl
      unfold pitem
      simp only [w2, pt, hi]
      rfl
    rw [wraps, pofn]
    simp only [w1, p1]
    rfl
end Go.Proofs.YtanfnjlndckhkaaDoor
