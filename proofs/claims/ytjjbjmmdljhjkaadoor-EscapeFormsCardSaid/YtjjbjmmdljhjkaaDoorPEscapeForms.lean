/- EscapeForms: the pure statement. -/
import Derived.Test.YtjjbjmmdljhjkaaDoorUDig
import Derived.Test.YtjjbjmmdljhjkaaDoorPrx13
import Derived.DataShut
namespace Go.Proofs.YtjjbjmmdljhjkaaDoor.Pr
open Go.RowKit Go.Proofs.YtjjbjmmdljhjkaaDoorW.PrintWords Go.Proofs.YtjjbjmmdljhjkaaDoorW.PrintLast Go.Proofs.YtjjbjmmdljhjkaaDoorW.PrintMore
set_option linter.unusedVariables false
set_option linter.unusedSimpArgs false

theorem parse_braces (ds : List UInt8) (n : Nat) (hd : ∀ d ∈ ds, 0 ≤ dv d.toNat) (hv : valD ds 0 = n) (hn : n ≤ 1114111) (h6 : ds.length ≤ 6) (h1 : 0 < ds.length) (t : List UInt8) (ht : t.length ≤ 10) :
    parseL ([34, 92, 117, 123] ++ ds ++ 125 :: t) = parsL (ds.length + t.length + 3) t [(n : Int)] (ds.length + 5) := by
  unfold parseL
  rw [if_neg (by simp; omega)]
  simp only [List.cons_append, List.nil_append]
  rw [if_pos (by trivial)]
  have e : (92 :: 117 :: 123 :: (ds ++ 125 :: t)).length = (ds.length + t.length + 3) + 1 := by simp; omega
  rw [e]
  simp only [parsL]
  rw [if_neg (by decide), if_neg (by decide), if_pos (by trivial), scan_braces n ds t hd hv hn h6 h1]
  dsimp only
  have ed : ((92 : UInt8) :: 117 :: 123 :: (ds ++ 125 :: t)).drop (ds.length + 4) = t := by
    rw [show (92 : UInt8) :: 117 :: 123 :: (ds ++ 125 :: t) = (92 :: 117 :: 123 :: ds ++ [125]) ++ t by simp]
    exact List.drop_left' (by simp)
  rw [ed, show 1 + (ds.length + 4) = ds.length + 5 by omega, List.nil_append]
theorem parse_semi (ds : List UInt8) (n : Nat) (hd : ∀ d ∈ ds, 0 ≤ dv d.toNat) (hv : valD ds 0 = n) (hn : n ≤ 1114111) (h6 : ds.length ≤ 6) :
    parseL ([34, 92, 117, 123] ++ ds ++ [59, 125, 34]) = ([], 3, 1) := by
  unfold parseL
  rw [if_neg (by simp; omega)]
  simp only [List.cons_append, List.nil_append]
  rw [if_pos (by trivial)]
  have e : (92 :: 117 :: 123 :: (ds ++ [59, 125, 34])).length = (ds.length + 5) + 1 := by simp
  rw [e]
  simp only [parsL]
  have hs : scanL (117 :: 123 :: (ds ++ [59, 125, 34])) = .bad := by
    simp only [scanL]
    rw [if_neg (by decide), if_pos (by trivial), if_pos (by trivial), digL_digits ds 0 0 _ hd (by omega) (by omega) (by omega), digL_semi]
  rw [if_neg (by decide), if_neg (by decide), if_pos (by trivial), hs]
  rfl

theorem forms_end (c : Nat) (hc : c ≤ 1114111) (ds : List UInt8) (hd : ∀ d ∈ ds, 0 ≤ dv d.toNat) (hv : valD ds 0 = c) (h6 : ds.length ≤ 6) (h1 : 0 < ds.length) :
    Ev (fun k => unicodetextlaw05_EscapeForms.j3 k (c : Int) (ofL ds)) true := by
  obtain ⟨KA, hA⟩ := alive_at
  obtain ⟨K1, g1⟩ := parse_ev ([34, 92, 117, 123] ++ ds ++ 125 :: [34])
  obtain ⟨K2, g2⟩ := parse_ev ([34, 92, 117, 123] ++ ds ++ 125 :: [])
  obtain ⟨K3, g3⟩ := parse_ev ([34, 92, 117, 123] ++ ds ++ [59, 125, 34])
  obtain ⟨K4, g4⟩ := equal_self [(c : Int)] (by simp)
  rw [parse_braces ds c hd hv hc h6 h1 [34] (by simp)] at g1
  rw [parse_braces ds c hd hv hc h6 h1 [] (by simp), parsL_nil] at g2
  rw [parse_semi ds c hd hv hc h6] at g3
  have p1 : parsL (ds.length + [(34 : UInt8)].length + 3) [34] [(c : Int)] (ds.length + 5) = ([(c : Int)], 0, 0) := by simp [parsL]
  rw [p1] at g1
  dsimp only at g1 g2 g3 g4
  refine ⟨KA + K1 + K2 + K3 + K4 + 1, fun k hk => ?_⟩
  obtain ⟨k, rfl⟩ : ∃ m, k = m + 1 := ⟨k - 1, by omega⟩
  simp only [unicodetextlaw05_EscapeForms.j3]
  rw [show (⟨#[34, 92, 117, 123]⟩ : ByteArray) = ofL [34, 92, 117, 123] from rfl, show (⟨#[125, 34]⟩ : ByteArray) = ofL [125, 34] from rfl, show (⟨#[125]⟩ : ByteArray) = ofL [125] from rfl, show (⟨#[59, 125, 34]⟩ : ByteArray) = ofL [59, 125, 34] from rfl]
  simp only [ofL_append]
  simp only [ofL_size, List.length_append, List.length_cons, List.length_nil]
  rw [if_pos (by omega), if_pos (by omega), g1 k (by omega), Option.bind_some, if_pos (by omega), g2 k (by omega), Option.bind_some, if_pos (by omega), g3 k (by omega), Option.bind_some]
  dsimp only
  rw [if_pos (by decide), g4 k (by omega), Option.bind_some, if_pos rfl]
  have hw : wrap64 ((ds.length : Int) + 5) = (ds.length : Int) + 5 := wrap_id (by omega) (by omega)
  have hc : ((3 : Int) == 3 && (((ds.length + 5 : Nat) : Int) == wrap64 ((ds.length : Int) + 5))) = true := by
    have e : ((ds.length + 5 : Nat) : Int) = (ds.length : Int) + 5 := by omega
    exact Bool.and_eq_true_iff.2 ⟨rfl, beq_iff_eq.2 (e.trans hw.symm)⟩
  refine (if_pos hc).trans ?_
  refine (if_pos (show ((3 : Int) == 3 && ((1 : Int) == 1)) = true from rfl)).trans ?_
  exact hA k (by omega)

/-- Small letters. -/
def lowB (b : UInt8) : UInt8 := if 65 ≤ b.toNat then UInt8.ofNat ((b.toNat + 32) % 256) else b
def okD (b : UInt8) : Bool := (decide (48 ≤ b.toNat) && decide (b.toNat ≤ 57)) || (decide (65 ≤ b.toNat) && decide (b.toNat ≤ 70))
theorem low_all : (List.range 256).all (fun n => !(okD (UInt8.ofNat n)) || (dv (lowB (UInt8.ofNat n)).toNat == dv (UInt8.ofNat n).toNat && decide (0 ≤ dv (UInt8.ofNat n).toNat))) = true := by decide +kernel
theorem low_dv (b : UInt8) (h : okD b = true) : dv (lowB b).toNat = dv b.toNat ∧ 0 ≤ dv b.toNat := by
  have hb := List.all_eq_true.1 low_all b.toNat (List.mem_range.2 b.toNat_lt)
  rw [show UInt8.ofNat b.toNat = b by simp] at hb
  rw [h] at hb
  simp at hb
  exact hb
theorem low_val : ∀ (ds : List UInt8) (v : Int), (∀ d ∈ ds, okD d = true) → valD (ds.map lowB) v = valD ds v
  | [], _, _ => rfl
  | d :: t, v, h => by
    simp only [List.map_cons, valD]
    rw [(low_dv d (h d (List.mem_cons_self ..))).1]
    exact low_val t _ (fun x hx => h x (List.mem_cons_of_mem _ hx))

theorem low_num (b : UInt8) : (if (b.toNat : Int) ≥ 65 then ((b.toNat : Int) + 32) % 256 else (b.toNat : Int)) = ((lowB b).toNat : Int) := by
  have := b.toNat_lt
  unfold lowB
  by_cases h : 65 ≤ b.toNat
  · rw [if_pos (by omega), if_pos h, UInt8.toNat_ofNat']
    have : (b.toNat + 32) % 256 % 2 ^ 8 = (b.toNat + 32) % 256 := Nat.mod_eq_of_lt (by omega)
    omega
  · rw [if_neg (by omega), if_neg h]

theorem forms_low (c : Nat) (ds : List UInt8) (h6 : ds.length ≤ 6) (d : Nat) : ∀ (i : Nat) (acc : List Int), i + d = ds.length → acc = (ds.take i).map (fun b => ((lowB b).toNat : Int)) →
    Ev (fun k => unicodetextlaw05_EscapeForms.j3 k (c : Int) (ofL (ds.map lowB))) true → Ev (fun k => unicodetextlaw05_EscapeForms.l1 k (c : Int) (ofL ds) acc (i : Int)) true := by
  induction d with
  | zero =>
    intro i acc hi ha he
    refine Ev.step (f := fun k => unicodetextlaw05_EscapeForms.j3 k (c : Int) (strOfNums acc)) (fun k => ?_) ?_
    · simp only [unicodetextlaw05_EscapeForms.l1]
      rw [if_neg (by rw [ofL_size]; omega)]
    · have e : strOfNums acc = ofL (ds.map lowB) := by
        rw [strOfNums_ofL, ha, List.take_of_length_le (by omega), List.map_map]
        rw [show ((fun n : Int => UInt8.ofNat n.toNat) ∘ fun b : UInt8 => ((lowB b).toNat : Int)) = lowB from funext fun b => by simp]
      rw [e]
      exact he
  | succ d ih =>
    intro i acc hi ha he
    have hlt : i < ds.length := by omega
    have hal : acc.length = i := by rw [ha]; simp; omega
    refine Ev.step (f := fun k => unicodetextlaw05_EscapeForms.l1 k (c : Int) (ofL ds) (acc ++ [((lowB ds[i]).toNat : Int)]) ((i + 1 : Nat) : Int)) (fun k => ?_) (ih (i + 1) (acc ++ [((lowB ds[i]).toNat : Int)]) (by omega) (by rw [ha, List.take_succ_eq_append_getElem hlt, List.map_append]; rfl) he)
    simp only [unicodetextlaw05_EscapeForms.l1]
    have hn := low_num ds[i]
    rw [if_pos (by rw [ofL_size]; omega), if_pos (by omega), bt_ofL ds i hlt, wrap_succ i (by omega)]
    by_cases h65 : ((ds[i]).toNat : Int) ≥ 65
    · rw [if_pos h65] at hn ⊢
      rw [if_pos (by omega), hn]
    · rw [if_neg h65] at hn ⊢
      rw [if_pos (by omega), hn]

theorem hexL_ok (n : Nat) (d : UInt8) (h : d ∈ hexL n) : okD d = true := by
  obtain ⟨q, hq, rfl⟩ := hexL_mem n d h
  match q, hq with
  | 0, _ | 1, _ | 2, _ | 3, _ | 4, _ | 5, _ | 6, _ | 7, _ | 8, _ | 9, _ | 10, _ | 11, _ | 12, _ | 13, _ | 14, _ | 15, _ => decide
  | n + 16, h => omega

theorem forms_small (c : Nat) (hc : c ≤ 1114111) (small : Bool) (ds : List UInt8) (ho : ∀ d ∈ ds, okD d = true) (hv : valD ds 0 = c) (h6 : ds.length ≤ 6) (h1 : 0 < ds.length) :
    Ev (fun k => unicodetextlaw05_EscapeForms.j1 k small (c : Int) (ofL ds)) true := by
  cases small with
  | false =>
    refine Ev.step (f := fun k => unicodetextlaw05_EscapeForms.j3 k (c : Int) (ofL ds)) (fun k => ?_) (forms_end c hc ds (fun d hd => (low_dv d (ho d hd)).2) hv h6 h1)
    simp only [unicodetextlaw05_EscapeForms.j1]
    rw [if_neg (by decide)]
  | true =>
    refine Ev.step (f := fun k => unicodetextlaw05_EscapeForms.l1 k (c : Int) (ofL ds) [] ((0 : Nat) : Int)) (fun k => ?_) (forms_low c ds h6 ds.length 0 [] (by omega) (by simp) (forms_end c hc (ds.map lowB) ?_ (by rw [low_val ds 0 ho, hv]) (by rw [List.length_map]; exact h6) (by rw [List.length_map]; exact h1)))
    · simp only [unicodetextlaw05_EscapeForms.j1]
      rfl
    · intro d hd
      obtain ⟨e, he, rfl⟩ := List.mem_map.1 hd
      have := low_dv e (ho e he)
      omega

theorem forms_zeros (c : Nat) (hc : c ≤ 1114111) (small : Bool) (m : Nat) : ∀ (z : Nat) (ds : List UInt8), z < 256 → ds.length + m = 6 → (∀ d ∈ ds, okD d = true) → valD ds 0 = c → 0 < ds.length →
    Ev (fun k => unicodetextlaw05_EscapeForms.l0 k (z : Int) small (c : Int) (ofL ds)) true := by
  induction m with
  | zero =>
    intro z ds hz hl ho hv h1
    refine Ev.step (f := fun k => unicodetextlaw05_EscapeForms.j1 k small (c : Int) (ofL ds)) (fun k => ?_) (forms_small c hc small ds ho hv (by omega) h1)
    simp only [unicodetextlaw05_EscapeForms.l0]
    rw [if_neg (by rw [ofL_size]; omega)]
  | succ m ih =>
    intro z ds hz hl ho hv h1
    by_cases h0 : 0 < z
    · refine Ev.step (f := fun k => unicodetextlaw05_EscapeForms.l0 k ((z - 1 : Nat) : Int) small (c : Int) (ofL (48 :: ds))) (fun k => ?_) (ih (z - 1) (48 :: ds) (by omega) (by simp; omega) ?_ ?_ (by simp))
      · simp only [unicodetextlaw05_EscapeForms.l0]
        rw [if_pos (by rw [ofL_size]; omega), if_pos (by omega), if_pos (by rw [ofL_size]; omega), show (⟨#[48]⟩ : ByteArray) = ofL [48] from rfl, ofL_append, show ((z : Int) - 1) % 256 = ((z - 1 : Nat) : Int) by omega]
        rfl
      · intro d hd
        rcases List.mem_cons.1 hd with rfl | hd
        · decide
        · exact ho d hd
      · exact hv
    · refine Ev.step (f := fun k => unicodetextlaw05_EscapeForms.j1 k small (c : Int) (ofL ds)) (fun k => ?_) (forms_small c hc small ds ho hv (by omega) h1)
      simp only [unicodetextlaw05_EscapeForms.l0]
      rw [if_pos (by rw [ofL_size]; omega), if_neg (by omega)]

theorem EscapeForms_pure : unicodetextlaw05_EscapeForms.Pure := by
  intro a0 a1 a2 w0 w1
  have b0 : 0 ≤ a0 ∧ a0 ≤ 4294967295 := by have := (Lit.wf_int_iff .u32 a0).1 w0; simpa [IntKind.min, IntKind.max, IntKind.bits, IntKind.signed] using this
  have b1 : 0 ≤ a1 ∧ a1 ≤ 255 := by have := (Lit.wf_int_iff .u8 a1).1 w1; simpa [IntKind.min, IntKind.max, IntKind.bits, IntKind.signed] using this
  obtain ⟨n, hn⟩ : ∃ n : Nat, wrap64 (Int.tmod a0 1114112) = (n : Int) ∧ n ≤ 1114111 := by
    rw [Int.tmod_eq_emod_of_nonneg b0.1]
    refine ⟨(a0 % 1114112).toNat, ?_, by omega⟩
    rw [wrap_id (by omega) (by omega)]
    omega
  obtain ⟨z, rfl⟩ := Int.eq_ofNat_of_zero_le b1.1
  have hl := hexLen_le n
  obtain ⟨K, h⟩ := forms_zeros n hn.2 a2 (6 - (hexL n).length) z (hexL n) (by omega) (by rw [hexL_length]; omega) (hexL_ok n) (hexL_val n hn.2) (by rw [hexL_length]; omega)
  dsimp only at h
  refine ⟨K + 7, ?_⟩
  unfold unicodetextlaw05_EscapeForms.f
  rw [hn.1, at_rounds (fun k => unicodetextref01_Hex.mono _ k) (show 7 ≤ K + 7 by omega) (ref_hex n), Option.bind_some, hexOf_ofL n hn.2, h _ (by omega)]

end Go.Proofs.YtjjbjmmdljhjkaaDoor.Pr
