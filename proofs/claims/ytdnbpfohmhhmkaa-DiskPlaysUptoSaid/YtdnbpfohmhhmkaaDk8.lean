/- DISK: 'copy' at a step of a region that draws; what a fall leaves. Printed by mac.py. -/
import Derived.Test.YtdnbpfohmhhmkaaDk7
import Derived.Laws.CopyRow
namespace Go.Proofs.Ytdnbpfohmhhmkaa
open Go.RowKit

/-- 'copy(d, s)' of cells of one's own, as a step. -/
theorem step_copy_row {P : Program} {ops : Array Oper} {o : Oper} {a : Act} {K : Act → World → Prop} {Q : Exit → Act → World → Prop} {E : Prop} {w : World} (hgd : o.guard = none) (d s : Operand) (dT sT : TypeId)
    (ho : o.op = .call { callee := .builtin .copy, args := #[d, s], argTypes := #[dT, sT] }) (elem : TypeId) (hu : P.underlying dT = some (.slice elem)) (hsz : (P.info? elem).map (·.size) = some 1)
    (g off dLen dCap : Nat) (ad : Addr) (sLen sCap : Nat) (hd : a.eval d = .slice (some ⟨g, off, none⟩) dLen dCap) (hs : a.eval s = .slice (some ad) sLen sCap)
    {cur : List Value} {t : TypeId} (hg : RowIs w g t cur) {cs : List Value} (hn : cs.length = Nat.min sLen dLen) (hsrc : ∀ j v, cs[j]? = some v → w.cell? (ad.add j) = some v) (hfit : off + cs.length ≤ cur.length) (h1 : ∀ v ∈ cs, v.oneCell' = true)
    (h : K (a.put o.dst (goInt cs.length)) (w.setRow g (cur.take off ++ cs ++ cur.drop (off + cs.length)).toArray)) :
    if Region.wanted o (yielded ops a.tmps) = true then Oper.wp P o a w K Q else E := by
  rw [if_pos (by simp [Region.wanted, hgd])]
  have hrun := run_copy_row (P := P) w dT sT o.type elem g off dLen dCap ad sLen sCap cur.toArray t cs hu hsz hg hn hsrc (by simpa using hfit) h1
  unfold Oper.wp
  simp only [execOp, ho, resolve, invoke, builtin, List.map_toArray, List.map_cons, List.map_nil, hd, hs, hrun, Sem.run_bind, Sem.run_pure, Result.andThen_ok]
  exact h
/-- How many bytes of the i-th write that waits are kept. -/
def keepN (keep : List Int) (i : Nat) : Nat := (min (max (keep.getD i 0) 0) 64).toNat
def mixF (n : Nat) (old new : List UInt8) : List UInt8 := new.take n ++ old.drop n
theorem mix_len {n : Nat} {old new : List UInt8} (h1 : old.length = 64) (h2 : new.length = 64) (hn : n ≤ 64) : (mixF n old new).length = 64 := by unfold mixF; simp [h1, h2]; omega
theorem keepN_le (keep : List Int) (i : Nat) : keepN keep i ≤ 64 := by unfold keepN; omega
/-- What a fall leaves of the first k writes. -/
def fallF (S : List (List UInt8)) (Q : List (Int × List UInt8)) (keep : List Int) : Nat → List (List UInt8)
  | 0 => S
  | k + 1 => let T := fallF S Q keep k
    let q := Q.getD k (0, [])
    T.set q.1.toNat (mixF (keepN keep k) (T.getD q.1.toNat []) q.2)
theorem fall_len (S : List (List UInt8)) (Q : List (Int × List UInt8)) (keep : List Int) : ∀ k, (fallF S Q keep k).length = S.length
  | 0 => rfl
  | k + 1 => by unfold fallF; rw [List.length_set]; exact fall_len S Q keep k
theorem fall_64 {S : List (List UInt8)} {Q : List (Int × List UInt8)} {ar : Int} (ok : DiskOk S Q ar) (keep : List Int) : ∀ k, k ≤ Q.length → ∀ b ∈ fallF S Q keep k, b.length = 64
  | 0, _ => ok.s64
  | k + 1, hk => by
    have ih := fall_64 ok keep k (by omega)
    intro b hb
    unfold fallF at hb
    rcases List.mem_or_eq_of_mem_set hb with h | h
    · exact ih b h
    · rw [h]
      have hlt : k < Q.length := by omega
      obtain ⟨h1, h2, h3⟩ := ok.q64 _ (List.getElem_mem hlt)
      have e : Q.getD k (0, []) = Q[k] := by rw [List.getD_eq_getElem?_getD, List.getElem?_eq_getElem hlt]; rfl
      rw [e]
      have hl : Q[k].1.toNat < (fallF S Q keep k).length := by rw [fall_len]; omega
      refine mix_len ?_ h1 (keepN_le _ _)
      rw [List.getD_eq_getElem?_getD, List.getElem?_eq_getElem hl]
      exact ih _ (List.getElem_mem hl)
end Go.Proofs.Ytdnbpfohmhhmkaa
