/- Plain laws of chains of drawn lines. No program, no condition. -/
import Derived.Test.YtefgdkjcoeikmaaLinesP
namespace Go.Proofs.Ytefgdkjcoeikmaa
open Go.ChangeShapes Go.WideShapes Go.ChangeAt Go.RowKit
set_option linter.unusedVariables false
set_option linter.unusedSimpArgs false

theorem chain_ok {p q r s p' q' r' s' : Int} (ha : SmL p q r s) (hb : SmL p' q' r' s') :
    chIn p q r s p' q' r' s' = true ∧ V (chZT p q r s p' q' r' s') (chZB p q r s p' q' r' s') (sX p' q' r' s' p q) (sY q' s' q) ∧ V (chUT p q r s p' q' r' s') (chUB p q r s p' q' r' s') (r * r') (s * s') ∧ 0 < chUT p q r s p' q' r' s' ∧
      lineOkB (chZT p q r s p' q' r' s') (chZB p q r s p' q' r' s') (chUT p q r s p' q' r' s') (chUB p q r s p' q' r' s') = true := by
  have hla := ha.line
  have hlb := hb.line
  obtain ⟨⟨h1, h11, h12, h13, h14⟩, ⟨h2, h21, h22, h23, h24⟩, h3⟩ := ha
  obtain ⟨k1, k2⟩ := shown_small hb (V.self h1) (M := 20) ⟨h11, h12⟩ (by omega) ⟨h13, h14⟩
  obtain ⟨⟨g1, g11, g12, g13, g14⟩, ⟨g2, g21, g22, g23, g24⟩, g3⟩ := hb
  have a1 := mul_bound (x := s) (y := s') (A := 12) (B := 12) (by omega) (by omega)
  have a2 := mul_bound (x := r) (y := r') (A := 20) (B := 20) (by omega) (by omega)
  have ho := (V.self h2).timOk_ (V.self g2) (by omega) (by omega) (by omega)
  have hu := (V.self h2).tim (V.self g2) ho
  have hi : chIn p q r s p' q' r' s' = true := by simp [chIn, hla, hlb, ho, k1]
  have e1 : chZT p q r s p' q' r' s' = shT p' q' r' s' p q := by simp [chZT, hi]
  have e2 : chZB p q r s p' q' r' s' = shB p' q' r' s' p q := by simp [chZB, hi]
  have e3 : chUT p q r s p' q' r' s' = timT r s r' s' := by simp [chUT, hi]
  have e4 : chUB p q r s p' q' r' s' = timB r s r' s' := by simp [chUB, hi]
  rw [e1, e2, e3, e4]
  have hpos : 0 < timT r s r' s' := by
    have q := hu.2.2
    have p1 := mul_pos1 h3 g3
    have p2 := mul_pos1 p1 hu.pos
    rcases Int.lt_or_le 0 (timT r s r' s') with h | h
    · exact h
    · exfalso
      have := Int.mul_nonneg (show 0 ≤ -timT r s r' s' by omega) (show 0 ≤ s * s' by have := hu.2.1; omega)
      have e : -timT r s r' s' * (s * s') = -(timT r s r' s' * (s * s')) := Int.neg_mul _ _
      omega
  exact ⟨hi, k2, hu, hpos, by simp [lineOkB, k2.1, hu.1, hpos]⟩
theorem chain_same {p q r s p' q' r' s' t b S D : Int} (ha : SmL p q r s) (hb : SmL p' q' r' s') (hv : Sm t b) (hs : V S D (sX p q r s t b) (sY q s b))
    (h7 : shOk p' q' r' s' S D = true) (h8 : shOk (chZT p q r s p' q' r' s') (chZB p q r s p' q' r' s') (chUT p q r s p' q' r' s') (chUB p q r s p' q' r' s') t b = true) :
    shT p' q' r' s' S D = shT (chZT p q r s p' q' r' s') (chZB p q r s p' q' r' s') (chUT p q r s p' q' r' s') (chUB p q r s p' q' r' s') t b ∧
    shB p' q' r' s' S D = shB (chZT p q r s p' q' r' s') (chZB p q r s p' q' r' s') (chUT p q r s p' q' r' s') (chUB p q r s p' q' r' s') t b := by
  obtain ⟨_, mz, mu, mp, _⟩ := chain_ok ha hb
  obtain ⟨⟨h1, h11, h12, h13, h14⟩, ⟨h2, h21, h22, h23, h24⟩, h3⟩ := ha
  obtain ⟨⟨g1, g11, g12, g13, g14⟩, ⟨g2, g21, g22, g23, g24⟩, g3⟩ := hb
  obtain ⟨v1, v2, v3, v4, v5⟩ := hv
  have b1 := sX_in (p := p) (q := q) (r := r) (s := s) (x := t) (y := b) (M := 20) ⟨h11, h12⟩ ⟨h13, h14⟩ ⟨h3, h22⟩ ⟨h23, h24⟩ ⟨v2, v3⟩ ⟨v4, v5⟩
  have b2 := sY_in (q := q) (s := s) (y := b) ⟨h13, h14⟩ ⟨h23, h24⟩ ⟨v4, v5⟩
  have c1 := mul_bound (x := s') (y := sY q s b) (A := 12) (B := 1728) (by omega) (by omega)
  have c2 := mul_bound (x := r') (y := sX p q r s t b) (A := 20) (B := 7680) (by omega) (by omega)
  have x := (shown_all (V.self g1) (V.self g2) hs (by omega) (by omega) (by omega) (by omega)).1 h7
  have a1 := mul_bound (x := s) (y := s') (A := 12) (B := 12) (by omega) (by omega)
  have a2 := mul_bound (x := r) (y := r') (A := 20) (B := 20) (by omega) (by omega)
  have a3 := mul_bound (x := s * s') (y := b) (A := 12 * 12) (B := 12) a1 (by omega)
  have a4 := mul_bound (x := r * r') (y := t) (A := 20 * 20) (B := 20) a2 (by omega)
  have y := (shown_all mz mu (V.self v1) mp (by omega) (by omega) (by omega)).1 h8
  exact x.uniq y (by unfold sX sY; grind)
end Go.Proofs.Ytefgdkjcoeikmaa
