/- WHAT BYTES ARE TAKEN AS. Printed by gen10.py. -/
import Derived.Test.YtibaehlfpgipfaaGreatQTook
import Derived.Test.YtibaehlfpgipfaaGreatQGetD
namespace Go.Proofs.YtibaehlfpgipfaaGreat
open Go.RowKit

def zGColumn : GColumn := ⟨[], 0, false⟩
theorem zGColumn_r (w : World) (p : Nat → Prop) : rGColumn w p [.string { data := #[] }, .int .i64 0, .bool false] zGColumn := ⟨[.string { data := #[] }], [.int .i64 0], [.bool false], rfl, ⟨rfl, by decide⟩, ⟨rfl, rfl⟩, rfl⟩
theorem zGColumn_w (w : World) (p : Nat → Prop) : wGColumn w p [.string { data := #[] }, .int .i64 0, .bool false] zGColumn := ⟨[.string { data := #[] }], [.int .i64 0], [.bool false], rfl, ⟨rfl, by decide⟩, ⟨rfl, rfl⟩, rfl⟩
def zGTable : GTable := ⟨0, [], [], []⟩
theorem zGTable_r (w : World) (p : Nat → Prop) : rGTable w p [.int .i64 0, .string { data := #[] }, .slice none 0 0, .slice none 0 0] zGTable := ⟨[.int .i64 0], [.string { data := #[] }], [.slice none 0 0], [.slice none 0 0], rfl, ⟨rfl, rfl⟩, ⟨rfl, by decide⟩, ⟨none, 0, [], rfl, rfl, Lies.nil _ _ _, by decide, by decide, fun i c x h => by simp at h⟩, ⟨none, 0, [], rfl, rfl, Lies.nil _ _ _, by decide, by decide, fun i c x h => by simp at h⟩⟩
theorem zGTable_w (w : World) (p : Nat → Prop) : wGTable w p [.int .i64 0, .string { data := #[] }, .slice none 0 0, .slice none 0 0] zGTable := ⟨[.int .i64 0], [.string { data := #[] }], [.slice none 0 0], [.slice none 0 0], rfl, ⟨rfl, rfl⟩, ⟨rfl, by decide⟩, ⟨none, 0, [], rfl, rfl, Lies.nil _ _ _, by decide, by decide, fun i c x h => by simp at h⟩, ⟨none, 0, [], rfl, rfl, Lies.nil _ _ _, by decide, by decide, fun i c x h => by simp at h⟩⟩
def zGIndex : GIndex := ⟨0, 0, [], [], false, 0, false⟩
theorem zGIndex_r (w : World) (p : Nat → Prop) : rGIndex w p [.int .i64 0, .int .i64 0, .string { data := #[] }, .slice none 0 0, .bool false, .int .i64 0, .bool false] zGIndex := ⟨[.int .i64 0], [.int .i64 0], [.string { data := #[] }], [.slice none 0 0], [.bool false], [.int .i64 0], [.bool false], rfl, ⟨rfl, rfl⟩, ⟨rfl, rfl⟩, ⟨rfl, by decide⟩, ⟨none, 0, [], rfl, rfl, Lies.nil _ _ _, by decide, by decide, fun i c x h => by simp at h⟩, rfl, ⟨rfl, rfl⟩, rfl⟩
theorem zGIndex_w (w : World) (p : Nat → Prop) : wGIndex w p [.int .i64 0, .int .i64 0, .string { data := #[] }, .slice none 0 0, .bool false, .int .i64 0, .bool false] zGIndex := ⟨[.int .i64 0], [.int .i64 0], [.string { data := #[] }], [.slice none 0 0], [.bool false], [.int .i64 0], [.bool false], rfl, ⟨rfl, rfl⟩, ⟨rfl, rfl⟩, ⟨rfl, by decide⟩, ⟨none, 0, [], rfl, rfl, Lies.nil _ _ _, by decide, by decide, fun i c x h => by simp at h⟩, rfl, ⟨rfl, rfl⟩, rfl⟩
def zGCatalog : GCatalog := ⟨0, 0, [], []⟩
theorem zGCatalog_r (w : World) (p : Nat → Prop) : rGCatalog w p [.int .i64 0, .int .i64 0, .slice none 0 0, .slice none 0 0] zGCatalog := ⟨[.int .i64 0], [.int .i64 0], [.slice none 0 0], [.slice none 0 0], rfl, ⟨rfl, rfl⟩, ⟨rfl, rfl⟩, ⟨none, 0, [], rfl, rfl, Lies.nil _ _ _, by decide, by decide, fun i c x h => by simp at h⟩, ⟨none, 0, [], rfl, rfl, Lies.nil _ _ _, by decide, by decide, fun i c x h => by simp at h⟩⟩
theorem zGCatalog_w (w : World) (p : Nat → Prop) : wGCatalog w p [.int .i64 0, .int .i64 0, .slice none 0 0, .slice none 0 0] zGCatalog := ⟨[.int .i64 0], [.int .i64 0], [.slice none 0 0], [.slice none 0 0], rfl, ⟨rfl, rfl⟩, ⟨rfl, rfl⟩, ⟨none, 0, [], rfl, rfl, Lies.nil _ _ _, by decide, by decide, fun i c x h => by simp at h⟩, ⟨none, 0, [], rfl, rfl, Lies.nil _ _ _, by decide, by decide, fun i c x h => by simp at h⟩⟩
def zGPair : GPair := ⟨[], [], 0⟩
theorem zGPair_r (w : World) (p : Nat → Prop) : rGPair w p [.slice none 0 0, .slice none 0 0, .int .i64 0] zGPair := ⟨[.slice none 0 0], [.slice none 0 0], [.int .i64 0], rfl, ⟨none, 0, rfl, Lies.nil _ _ _, by decide, by decide⟩, ⟨none, 0, rfl, Lies.nil _ _ _, by decide, by decide⟩, ⟨rfl, rfl⟩⟩
theorem zGPair_w (w : World) (p : Nat → Prop) : wGPair w p [.slice none 0 0, .slice none 0 0, .int .i64 0] zGPair := ⟨[.slice none 0 0], [.slice none 0 0], [.int .i64 0], rfl, ⟨none, 0, rfl, fun h => absurd rfl h, by decide, by decide⟩, ⟨none, 0, rfl, fun h => absurd rfl h, by decide, by decide⟩, ⟨rfl, rfl⟩⟩
def zGWrite : GWrite := ⟨[], [], false⟩
theorem zGWrite_r (w : World) (p : Nat → Prop) : rGWrite w p [.slice none 0 0, .slice none 0 0, .bool false] zGWrite := ⟨[.slice none 0 0], [.slice none 0 0], [.bool false], rfl, ⟨none, 0, rfl, Lies.nil _ _ _, by decide, by decide⟩, ⟨none, 0, rfl, Lies.nil _ _ _, by decide, by decide⟩, rfl⟩
theorem zGWrite_w (w : World) (p : Nat → Prop) : wGWrite w p [.slice none 0 0, .slice none 0 0, .bool false] zGWrite := ⟨[.slice none 0 0], [.slice none 0 0], [.bool false], rfl, ⟨none, 0, rfl, fun h => absurd rfl h, by decide, by decide⟩, ⟨none, 0, rfl, fun h => absurd rfl h, by decide, by decide⟩, rfl⟩
def zGSpan : GSpan := ⟨[], []⟩
theorem zGSpan_r (w : World) (p : Nat → Prop) : rGSpan w p [.slice none 0 0, .slice none 0 0] zGSpan := ⟨[.slice none 0 0], [.slice none 0 0], rfl, ⟨none, 0, rfl, Lies.nil _ _ _, by decide, by decide⟩, ⟨none, 0, rfl, Lies.nil _ _ _, by decide, by decide⟩⟩
theorem zGSpan_w (w : World) (p : Nat → Prop) : wGSpan w p [.slice none 0 0, .slice none 0 0] zGSpan := ⟨[.slice none 0 0], [.slice none 0 0], rfl, ⟨none, 0, rfl, fun h => absurd rfl h, by decide, by decide⟩, ⟨none, 0, rfl, fun h => absurd rfl h, by decide, by decide⟩⟩
def zGSeen : GSeen := ⟨zGSpan, []⟩
theorem zGSeen_r (w : World) (p : Nat → Prop) : rGSeen w p [.slice none 0 0, .slice none 0 0, .slice none 0 0] zGSeen := ⟨[.slice none 0 0, .slice none 0 0], [.slice none 0 0], rfl, zGSpan_r _ _, ⟨none, 0, [], rfl, rfl, Lies.nil _ _ _, by decide, by decide, fun i c x h => by simp at h⟩⟩
theorem zGSeen_w (w : World) (p : Nat → Prop) : wGSeen w p [.slice none 0 0, .slice none 0 0, .slice none 0 0] zGSeen := ⟨[.slice none 0 0, .slice none 0 0], [.slice none 0 0], rfl, zGSpan_w _ _, ⟨none, 0, [], rfl, rfl, Lies.nil _ _ _, by decide, by decide, fun i c x h => by simp at h⟩⟩
def zGOwner : GOwner := ⟨0, []⟩
theorem zGOwner_r (w : World) (p : Nat → Prop) : rGOwner w p [.int .i64 0, .slice none 0 0] zGOwner := ⟨[.int .i64 0], [.slice none 0 0], rfl, ⟨rfl, rfl⟩, ⟨none, 0, rfl, Lies.nil _ _ _, by decide, by decide⟩⟩
theorem zGOwner_w (w : World) (p : Nat → Prop) : wGOwner w p [.int .i64 0, .slice none 0 0] zGOwner := ⟨[.int .i64 0], [.slice none 0 0], rfl, ⟨rfl, rfl⟩, ⟨none, 0, rfl, fun h => absurd rfl h, by decide, by decide⟩⟩
def zGRoutes : GRoutes := ⟨0, 0, [], 0, []⟩
theorem zGRoutes_r (w : World) (p : Nat → Prop) : rGRoutes w p [.int .i64 0, .int .i64 0, .slice none 0 0, .int .i64 0, .slice none 0 0] zGRoutes := ⟨[.int .i64 0], [.int .i64 0], [.slice none 0 0], [.int .i64 0], [.slice none 0 0], rfl, ⟨rfl, rfl⟩, ⟨rfl, rfl⟩, ⟨none, 0, [], rfl, rfl, Lies.nil _ _ _, by decide, by decide, fun i c x h => by simp at h⟩, ⟨rfl, rfl⟩, ⟨none, 0, rfl, Lies.nil _ _ _, by decide, by decide⟩⟩
theorem zGRoutes_w (w : World) (p : Nat → Prop) : wGRoutes w p [.int .i64 0, .int .i64 0, .slice none 0 0, .int .i64 0, .slice none 0 0] zGRoutes := ⟨[.int .i64 0], [.int .i64 0], [.slice none 0 0], [.int .i64 0], [.slice none 0 0], rfl, ⟨rfl, rfl⟩, ⟨rfl, rfl⟩, ⟨none, 0, [], rfl, rfl, Lies.nil _ _ _, by decide, by decide, fun i c x h => by simp at h⟩, ⟨rfl, rfl⟩, ⟨none, 0, rfl, fun h => absurd rfl h, by decide, by decide⟩⟩
def zGCommand : GCommand := ⟨0, 0, 0, 0, 0, 0, false, [], zGSpan, [], [], [], zGTable, zGIndex, []⟩
theorem zGCommand_r (w : World) (p : Nat → Prop) : rGCommand w p [.int .i64 0, .int .i64 0, .int .u64 0, .int .i64 0, .int .i64 0, .int .i64 0, .bool false, .slice none 0 0, .slice none 0 0, .slice none 0 0, .slice none 0 0, .slice none 0 0, .slice none 0 0, .int .i64 0, .string { data := #[] }, .slice none 0 0, .slice none 0 0, .int .i64 0, .int .i64 0, .string { data := #[] }, .slice none 0 0, .bool false, .int .i64 0, .bool false, .string { data := #[] }] zGCommand := ⟨[.int .i64 0], [.int .i64 0], [.int .u64 0], [.int .i64 0], [.int .i64 0], [.int .i64 0], [.bool false], [.slice none 0 0], [.slice none 0 0, .slice none 0 0], [.slice none 0 0], [.slice none 0 0], [.slice none 0 0], [.int .i64 0, .string { data := #[] }, .slice none 0 0, .slice none 0 0], [.int .i64 0, .int .i64 0, .string { data := #[] }, .slice none 0 0, .bool false, .int .i64 0, .bool false], [.string { data := #[] }], rfl, ⟨rfl, rfl⟩, ⟨rfl, rfl⟩, ⟨rfl, rfl⟩, ⟨rfl, rfl⟩, ⟨rfl, rfl⟩, ⟨rfl, rfl⟩, rfl, ⟨none, 0, rfl, Lies.nil _ _ _, by decide, by decide⟩, zGSpan_r _ _, ⟨none, 0, [], rfl, rfl, Lies.nil _ _ _, by decide, by decide, fun i c x h => by simp at h⟩, ⟨none, 0, [], rfl, rfl, Lies.nil _ _ _, by decide, by decide, fun i c x h => by simp at h⟩, ⟨none, 0, [], rfl, rfl, Lies.nil _ _ _, by decide, by decide, fun i c x h => by simp at h⟩, zGTable_r _ _, zGIndex_r _ _, ⟨rfl, by decide⟩⟩
theorem zGCommand_w (w : World) (p : Nat → Prop) : wGCommand w p [.int .i64 0, .int .i64 0, .int .u64 0, .int .i64 0, .int .i64 0, .int .i64 0, .bool false, .slice none 0 0, .slice none 0 0, .slice none 0 0, .slice none 0 0, .slice none 0 0, .slice none 0 0, .int .i64 0, .string { data := #[] }, .slice none 0 0, .slice none 0 0, .int .i64 0, .int .i64 0, .string { data := #[] }, .slice none 0 0, .bool false, .int .i64 0, .bool false, .string { data := #[] }] zGCommand := ⟨[.int .i64 0], [.int .i64 0], [.int .u64 0], [.int .i64 0], [.int .i64 0], [.int .i64 0], [.bool false], [.slice none 0 0], [.slice none 0 0, .slice none 0 0], [.slice none 0 0], [.slice none 0 0], [.slice none 0 0], [.int .i64 0, .string { data := #[] }, .slice none 0 0, .slice none 0 0], [.int .i64 0, .int .i64 0, .string { data := #[] }, .slice none 0 0, .bool false, .int .i64 0, .bool false], [.string { data := #[] }], rfl, ⟨rfl, rfl⟩, ⟨rfl, rfl⟩, ⟨rfl, rfl⟩, ⟨rfl, rfl⟩, ⟨rfl, rfl⟩, ⟨rfl, rfl⟩, rfl, ⟨none, 0, rfl, fun h => absurd rfl h, by decide, by decide⟩, zGSpan_w _ _, ⟨none, 0, [], rfl, rfl, Lies.nil _ _ _, by decide, by decide, fun i c x h => by simp at h⟩, ⟨none, 0, [], rfl, rfl, Lies.nil _ _ _, by decide, by decide, fun i c x h => by simp at h⟩, ⟨none, 0, [], rfl, rfl, Lies.nil _ _ _, by decide, by decide, fun i c x h => by simp at h⟩, zGTable_w _ _, zGIndex_w _ _, ⟨rfl, by decide⟩⟩
def zGReply : GReply := ⟨0, 0, 0, false, [], [], zGCatalog, zGRoutes⟩
theorem zGReply_r (w : World) (p : Nat → Prop) : rGReply w p [.int .i64 0, .int .u64 0, .int .i64 0, .bool false, .slice none 0 0, .slice none 0 0, .int .i64 0, .int .i64 0, .slice none 0 0, .slice none 0 0, .int .i64 0, .int .i64 0, .slice none 0 0, .int .i64 0, .slice none 0 0] zGReply := ⟨[.int .i64 0], [.int .u64 0], [.int .i64 0], [.bool false], [.slice none 0 0], [.slice none 0 0], [.int .i64 0, .int .i64 0, .slice none 0 0, .slice none 0 0], [.int .i64 0, .int .i64 0, .slice none 0 0, .int .i64 0, .slice none 0 0], rfl, ⟨rfl, rfl⟩, ⟨rfl, rfl⟩, ⟨rfl, rfl⟩, rfl, ⟨none, 0, [], rfl, rfl, Lies.nil _ _ _, by decide, by decide, fun i c x h => by simp at h⟩, ⟨none, 0, [], rfl, rfl, Lies.nil _ _ _, by decide, by decide, fun i c x h => by simp at h⟩, zGCatalog_r _ _, zGRoutes_r _ _⟩
theorem zGReply_w (w : World) (p : Nat → Prop) : wGReply w p [.int .i64 0, .int .u64 0, .int .i64 0, .bool false, .slice none 0 0, .slice none 0 0, .int .i64 0, .int .i64 0, .slice none 0 0, .slice none 0 0, .int .i64 0, .int .i64 0, .slice none 0 0, .int .i64 0, .slice none 0 0] zGReply := ⟨[.int .i64 0], [.int .u64 0], [.int .i64 0], [.bool false], [.slice none 0 0], [.slice none 0 0], [.int .i64 0, .int .i64 0, .slice none 0 0, .slice none 0 0], [.int .i64 0, .int .i64 0, .slice none 0 0, .int .i64 0, .slice none 0 0], rfl, ⟨rfl, rfl⟩, ⟨rfl, rfl⟩, ⟨rfl, rfl⟩, rfl, ⟨none, 0, [], rfl, rfl, Lies.nil _ _ _, by decide, by decide, fun i c x h => by simp at h⟩, ⟨none, 0, [], rfl, rfl, Lies.nil _ _ _, by decide, by decide, fun i c x h => by simp at h⟩, zGCatalog_w _ _, zGRoutes_w _ _⟩
theorem lda_Command (a : Act) (dst : Option Tmp) (x : Operand) (ty : TypeId) (pos : String) (after : Array Edge) (guard : Option (Nat × Bool)) : execOp a.eval { dst := dst, op := .load 43 x, type := ty, pos := pos, after := after, guard := guard } = wholeSem 43 (a.eval x) := rfl
section
attribute [local go_sem ↓] lda_Command st_Command
set_option maxRecDepth 100000 in
set_option maxHeartbeats 8000000 in
theorem allCommand_c (rd : Nat) (p : Nat → Prop) (s : RdS) (w : World) (h : IsRd w 151 rd p s) (hpl : ∀ b, p b → b < w.heap.size) :
    Calls Tryz.prog 91 #[.agg #[.pointer (some ⟨rd, 0, none⟩)], .func (.func 92) #[.agg #[.pointer (some ⟨rd, 0, none⟩)]] #[]] w (TookR wGCommand rd w (endP zGCommand (pGCommand s))) := by
  have hlt := h.lt
  have hsz : (w.alloc (.cells #[.pointer (some ⟨rd, 0, none⟩)] 154)).heap.size = w.heap.size + 1 := by simp
  have rowB : RowIs ((w.alloc (.cells #[.pointer (some ⟨rd, 0, none⟩)] 154)).alloc (.cells #[.int .i64 0, .int .i64 0, .int .u64 0, .int .i64 0, .int .i64 0, .int .i64 0, .bool false, .slice none 0 0, .slice none 0 0, .slice none 0 0, .slice none 0 0, .slice none 0 0, .slice none 0 0, .int .i64 0, .string { data := #[] }, .slice none 0 0, .slice none 0 0, .int .i64 0, .int .i64 0, .string { data := #[] }, .slice none 0 0, .bool false, .int .i64 0, .bool false, .string { data := #[] }] 43)) w.heap.size 154 [.pointer (some ⟨rd, 0, none⟩)] := (RowIs.alloc w _ _).keep ((Keep.refl Nix _).alloc _) id
  have rowR : RowIs ((w.alloc (.cells #[.pointer (some ⟨rd, 0, none⟩)] 154)).alloc (.cells #[.int .i64 0, .int .i64 0, .int .u64 0, .int .i64 0, .int .i64 0, .int .i64 0, .bool false, .slice none 0 0, .slice none 0 0, .slice none 0 0, .slice none 0 0, .slice none 0 0, .slice none 0 0, .int .i64 0, .string { data := #[] }, .slice none 0 0, .slice none 0 0, .int .i64 0, .int .i64 0, .string { data := #[] }, .slice none 0 0, .bool false, .int .i64 0, .bool false, .string { data := #[] }] 43)) (w.heap.size + 1) 43 [.int .i64 0, .int .i64 0, .int .u64 0, .int .i64 0, .int .i64 0, .int .i64 0, .bool false, .slice none 0 0, .slice none 0 0, .slice none 0 0, .slice none 0 0, .slice none 0 0, .slice none 0 0, .int .i64 0, .string { data := #[] }, .slice none 0 0, .slice none 0 0, .int .i64 0, .int .i64 0, .string { data := #[] }, .slice none 0 0, .bool false, .int .i64 0, .bool false, .string { data := #[] }] := by
    rw [← hsz]
    exact RowIs.alloc (w.alloc (.cells #[.pointer (some ⟨rd, 0, none⟩)] 154)) _ _
  have hr := h.nix (((Keep.refl Nix w).alloc (.cells #[.pointer (some ⟨rd, 0, none⟩)] 154)).alloc (.cells #[.int .i64 0, .int .i64 0, .int .u64 0, .int .i64 0, .int .i64 0, .int .i64 0, .bool false, .slice none 0 0, .slice none 0 0, .slice none 0 0, .slice none 0 0, .slice none 0 0, .slice none 0 0, .int .i64 0, .string { data := #[] }, .slice none 0 0, .slice none 0 0, .int .i64 0, .int .i64 0, .string { data := #[] }, .slice none 0 0, .bool false, .int .i64 0, .bool false, .string { data := #[] }] 43))
  have kk : Keep (· = rd) w ((w.alloc (.cells #[.pointer (some ⟨rd, 0, none⟩)] 154)).alloc (.cells #[.int .i64 0, .int .i64 0, .int .u64 0, .int .i64 0, .int .i64 0, .int .i64 0, .bool false, .slice none 0 0, .slice none 0 0, .slice none 0 0, .slice none 0 0, .slice none 0 0, .slice none 0 0, .int .i64 0, .string { data := #[] }, .slice none 0 0, .slice none 0 0, .int .i64 0, .int .i64 0, .string { data := #[] }, .slice none 0 0, .bool false, .int .i64 0, .bool false, .string { data := #[] }] 43)) := ((Keep.refl (· = rd) w).alloc _).alloc _
  clear h hsz
  go_enter Tryz.func91, Tryz.ntmps91
  go_wp2_with fail
  go_fit (gCommand_c rd p _ _ hr (fun b hb => Nat.lt_of_lt_of_le (hpl b hb) kk.size))
  rintro e w1 ⟨cs, rfl, hc, ho, hr1, k1⟩
  have hlc := Lib.hid (wGCommand_lawful.len hc)
  have HO := Lib.hid ho
  clear ho hr
  obtain ⟨y, HY⟩ : ∃ y, Hid (pGCommand s = y) := ⟨_, rfl⟩
  rw [HY.out] at hc hr1
  have rRl0 := rowR.lt
  replace rowB := rowB.keep k1 (by omega)
  replace rowR := rowR.keep k1 (by omega)
  have rRl := rowR.lt
  have hrl := hr1.lt
  have hst0 := store_run (P := Tryz.prog) (cs := cs) S_Command (RowIs.alloc w1 #[.int .i64 0, .int .i64 0, .int .u64 0, .int .i64 0, .int .i64 0, .int .i64 0, .bool false, .slice none 0 0, .slice none 0 0, .slice none 0 0, .slice none 0 0, .slice none 0 0, .slice none 0 0, .int .i64 0, .string { data := #[] }, .slice none 0 0, .slice none 0 0, .int .i64 0, .int .i64 0, .string { data := #[] }, .slice none 0 0, .bool false, .int .i64 0, .bool false, .string { data := #[] }] 43) rfl hlc.out HO.out
  have rowV := (RowIs.alloc w1 #[.int .i64 0, .int .i64 0, .int .u64 0, .int .i64 0, .int .i64 0, .int .i64 0, .bool false, .slice none 0 0, .slice none 0 0, .slice none 0 0, .slice none 0 0, .slice none 0 0, .slice none 0 0, .int .i64 0, .string { data := #[] }, .slice none 0 0, .slice none 0 0, .int .i64 0, .int .i64 0, .string { data := #[] }, .slice none 0 0, .bool false, .int .i64 0, .bool false, .string { data := #[] }] 43).setRow cs
  have kT := ((Keep.refl (· = w1.heap.size) w1).alloc (.cells #[.int .i64 0, .int .i64 0, .int .u64 0, .int .i64 0, .int .i64 0, .int .i64 0, .bool false, .slice none 0 0, .slice none 0 0, .slice none 0 0, .slice none 0 0, .slice none 0 0, .slice none 0 0, .int .i64 0, .string { data := #[] }, .slice none 0 0, .slice none 0 0, .int .i64 0, .int .i64 0, .string { data := #[] }, .slice none 0 0, .bool false, .int .i64 0, .bool false, .string { data := #[] }] 43)).setRow (fun _ => rfl) cs.toArray
  replace rowB := rowB.keep kT (by omega)
  replace rowR := rowR.keep kT (by omega)
  have hr2 := hr1.keep kT (by omega) (fun b hb e => by have := hpl b hb; omega)
  have kk2 : Keep (· = rd) w ((w1.alloc (.cells #[.int .i64 0, .int .i64 0, .int .u64 0, .int .i64 0, .int .i64 0, .int .i64 0, .bool false, .slice none 0 0, .slice none 0 0, .slice none 0 0, .slice none 0 0, .slice none 0 0, .slice none 0 0, .int .i64 0, .string { data := #[] }, .slice none 0 0, .slice none 0 0, .int .i64 0, .int .i64 0, .string { data := #[] }, .slice none 0 0, .bool false, .int .i64 0, .bool false, .string { data := #[] }] 43)).setRow w1.heap.size cs.toArray) := (kk.trans k1).then kT (fun i hi e => by omega)
  have hs2 : w.heap.size + 2 ≤ ((w.alloc (.cells #[.pointer (some ⟨rd, 0, none⟩)] 154)).alloc (.cells #[.int .i64 0, .int .i64 0, .int .u64 0, .int .i64 0, .int .i64 0, .int .i64 0, .bool false, .slice none 0 0, .slice none 0 0, .slice none 0 0, .slice none 0 0, .slice none 0 0, .slice none 0 0, .int .i64 0, .string { data := #[] }, .slice none 0 0, .slice none 0 0, .int .i64 0, .int .i64 0, .string { data := #[] }, .slice none 0 0, .bool false, .int .i64 0, .bool false, .string { data := #[] }] 43)).heap.size := by simp
  replace hc := wGCommand_lawful.keep hc kT (fun b hb e => by have := hb.2; omega)
  have xB : ((w1.alloc (.cells #[.int .i64 0, .int .i64 0, .int .u64 0, .int .i64 0, .int .i64 0, .int .i64 0, .bool false, .slice none 0 0, .slice none 0 0, .slice none 0 0, .slice none 0 0, .slice none 0 0, .slice none 0 0, .int .i64 0, .string { data := #[] }, .slice none 0 0, .slice none 0 0, .int .i64 0, .int .i64 0, .string { data := #[] }, .slice none 0 0, .bool false, .int .i64 0, .bool false, .string { data := #[] }] 43)).setRow w1.heap.size cs.toArray).cell? ⟨w.heap.size, 0, none⟩ = some (.pointer (some ⟨rd, 0, none⟩)) := rowB.cell 0
  clear k1 kT hr1 rowB kk
  go_wp2_with fail
  go_fit (End_rd rd p y.2 _ hr2)
  rintro e w2 ⟨rfl, k2⟩
  clear xB hst0
  replace rowR := rowR.keep k2 id
  replace rowV := rowV.keep k2 id
  replace hc := wGCommand_lawful.nix hc k2
  have kk3 := kk2.trans k2.nix
  have rRl2 := rowV.lt
  clear hr2 k2 kk2
  rcases test_eq (endS y.2) 0 with ⟨t, he⟩ | ⟨t, he⟩
  · have t' : (endS y.2 != 0) = false := by simp [he.out]
    have hld : (wholeSem 43 (.pointer (some ⟨w1.heap.size, 0, none⟩))).run Tryz.prog w2 = .ok (.value (.agg cs.toArray)) w2 := Whole.row S_Command hlc.out rowV
    have hst := store_run (P := Tryz.prog) (cs := cs) S_Command rowR rfl hlc.out HO.out
    have rowF := rowR.setRow cs
    have kS := (Keep.refl (· = w.heap.size + 1) w2).setRow (fun _ => rfl) cs.toArray
    have hin : (Tryz.prog.info? 43).map (·.size) = some cs.toArray.size := by rw [List.size_toArray, hlc.out]; exact S_Command.info
    have HIN := Lib.hid hin
    clear hin rowV
    go_wp2_with fail
    refine bodyPost_ret (results_cell_row2 (by rfl) _ _ _ _ _ _ _ (by rfl) rowF Tryz.underlying43 (by rfl) HIN.out) rfl ?_
    rw [HY.out, endP_ok he.out]
    exact ⟨cs, rfl, wGCommand_lawful.mono (wGCommand_lawful.keep hc kS (fun b hb e => by have := hb.1; omega)) (fun b hb => (⟨by have := hb.1; omega, by have := hb.2; have := kS.size; omega⟩ : NewIn w (w2.setRow (w.heap.size + 1) cs.toArray) b)), HO.out, kk3.then kS (fun i hi e => by omega)⟩
  · have t' : (endS y.2 != 0) = true := by simp [he]
    have HE := Lib.hid he
    clear he
    have rowN : RowIs (w2.alloc (.cells #[.int .i64 0, .int .i64 0, .int .u64 0, .int .i64 0, .int .i64 0, .int .i64 0, .bool false, .slice none 0 0, .slice none 0 0, .slice none 0 0, .slice none 0 0, .slice none 0 0, .slice none 0 0, .int .i64 0, .string { data := #[] }, .slice none 0 0, .slice none 0 0, .int .i64 0, .int .i64 0, .string { data := #[] }, .slice none 0 0, .bool false, .int .i64 0, .bool false, .string { data := #[] }] 43)) w2.heap.size 43 [.int .i64 0, .int .i64 0, .int .u64 0, .int .i64 0, .int .i64 0, .int .i64 0, .bool false, .slice none 0 0, .slice none 0 0, .slice none 0 0, .slice none 0 0, .slice none 0 0, .slice none 0 0, .int .i64 0, .string { data := #[] }, .slice none 0 0, .slice none 0 0, .int .i64 0, .int .i64 0, .string { data := #[] }, .slice none 0 0, .bool false, .int .i64 0, .bool false, .string { data := #[] }] := RowIs.alloc w2 _ _
    have rowR2 := rowR.keep ((Keep.refl Nix w2).alloc (.cells #[.int .i64 0, .int .i64 0, .int .u64 0, .int .i64 0, .int .i64 0, .int .i64 0, .bool false, .slice none 0 0, .slice none 0 0, .slice none 0 0, .slice none 0 0, .slice none 0 0, .slice none 0 0, .int .i64 0, .string { data := #[] }, .slice none 0 0, .slice none 0 0, .int .i64 0, .int .i64 0, .string { data := #[] }, .slice none 0 0, .bool false, .int .i64 0, .bool false, .string { data := #[] }] 43)) id
    have hld : (wholeSem 43 (.pointer (some ⟨w2.heap.size, 0, none⟩))).run Tryz.prog (w2.alloc (.cells #[.int .i64 0, .int .i64 0, .int .u64 0, .int .i64 0, .int .i64 0, .int .i64 0, .bool false, .slice none 0 0, .slice none 0 0, .slice none 0 0, .slice none 0 0, .slice none 0 0, .slice none 0 0, .int .i64 0, .string { data := #[] }, .slice none 0 0, .slice none 0 0, .int .i64 0, .int .i64 0, .string { data := #[] }, .slice none 0 0, .bool false, .int .i64 0, .bool false, .string { data := #[] }] 43)) = .ok (.value (.agg #[.int .i64 0, .int .i64 0, .int .u64 0, .int .i64 0, .int .i64 0, .int .i64 0, .bool false, .slice none 0 0, .slice none 0 0, .slice none 0 0, .slice none 0 0, .slice none 0 0, .slice none 0 0, .int .i64 0, .string { data := #[] }, .slice none 0 0, .slice none 0 0, .int .i64 0, .int .i64 0, .string { data := #[] }, .slice none 0 0, .bool false, .int .i64 0, .bool false, .string { data := #[] }])) (w2.alloc (.cells #[.int .i64 0, .int .i64 0, .int .u64 0, .int .i64 0, .int .i64 0, .int .i64 0, .bool false, .slice none 0 0, .slice none 0 0, .slice none 0 0, .slice none 0 0, .slice none 0 0, .slice none 0 0, .int .i64 0, .string { data := #[] }, .slice none 0 0, .slice none 0 0, .int .i64 0, .int .i64 0, .string { data := #[] }, .slice none 0 0, .bool false, .int .i64 0, .bool false, .string { data := #[] }] 43)) := Whole.row S_Command rfl rowN
    have hst := store_run (P := Tryz.prog) (cs := [.int .i64 0, .int .i64 0, .int .u64 0, .int .i64 0, .int .i64 0, .int .i64 0, .bool false, .slice none 0 0, .slice none 0 0, .slice none 0 0, .slice none 0 0, .slice none 0 0, .slice none 0 0, .int .i64 0, .string { data := #[] }, .slice none 0 0, .slice none 0 0, .int .i64 0, .int .i64 0, .string { data := #[] }, .slice none 0 0, .bool false, .int .i64 0, .bool false, .string { data := #[] }]) S_Command rowR2 rfl rfl rfl
    have rowF := rowR2.setRow [.int .i64 0, .int .i64 0, .int .u64 0, .int .i64 0, .int .i64 0, .int .i64 0, .bool false, .slice none 0 0, .slice none 0 0, .slice none 0 0, .slice none 0 0, .slice none 0 0, .slice none 0 0, .int .i64 0, .string { data := #[] }, .slice none 0 0, .slice none 0 0, .int .i64 0, .int .i64 0, .string { data := #[] }, .slice none 0 0, .bool false, .int .i64 0, .bool false, .string { data := #[] }]
    have kS := ((Keep.refl (· = w.heap.size + 1) w2).alloc (.cells #[.int .i64 0, .int .i64 0, .int .u64 0, .int .i64 0, .int .i64 0, .int .i64 0, .bool false, .slice none 0 0, .slice none 0 0, .slice none 0 0, .slice none 0 0, .slice none 0 0, .slice none 0 0, .int .i64 0, .string { data := #[] }, .slice none 0 0, .slice none 0 0, .int .i64 0, .int .i64 0, .string { data := #[] }, .slice none 0 0, .bool false, .int .i64 0, .bool false, .string { data := #[] }] 43)).setRow (fun _ => rfl) (#[.int .i64 0, .int .i64 0, .int .u64 0, .int .i64 0, .int .i64 0, .int .i64 0, .bool false, .slice none 0 0, .slice none 0 0, .slice none 0 0, .slice none 0 0, .slice none 0 0, .slice none 0 0, .int .i64 0, .string { data := #[] }, .slice none 0 0, .slice none 0 0, .int .i64 0, .int .i64 0, .string { data := #[] }, .slice none 0 0, .bool false, .int .i64 0, .bool false, .string { data := #[] }] : Array Value)
    clear rowN rowV rowR2
    go_wp2_with fail
    refine bodyPost_ret (results_cell_row2 (by rfl) _ _ _ _ _ _ _ (by rfl) rowF Tryz.underlying43 (by rfl) S_Command.info) rfl ?_
    rw [HY.out, endP_no HE.out]
    exact ⟨[.int .i64 0, .int .i64 0, .int .u64 0, .int .i64 0, .int .i64 0, .int .i64 0, .bool false, .slice none 0 0, .slice none 0 0, .slice none 0 0, .slice none 0 0, .slice none 0 0, .slice none 0 0, .int .i64 0, .string { data := #[] }, .slice none 0 0, .slice none 0 0, .int .i64 0, .int .i64 0, .string { data := #[] }, .slice none 0 0, .bool false, .int .i64 0, .bool false, .string { data := #[] }], rfl, zGCommand_w _ _, rfl, kk3.then kS (fun i hi e => by omega)⟩
end
section
attribute [local go_sem ↓] st_Command
set_option maxRecDepth 100000 in
set_option maxHeartbeats 8000000 in
theorem wTakeCommand_c {p : Nat → Prop} (a : Option Addr) (n ca : Nat) (l : List UInt8) (w : World) (hn : l.length = n) (ha : Lies w p a (l.map bv)) (hr0 : n ≤ 140737488355328) :
    Calls Tryz.prog 55 #[.slice a n ca] w (Took wGCommand w (takeP pGCommand zGCommand l)) := by
  have rowR : RowIs (w.alloc (.cells #[.int .i64 0, .int .i64 0, .int .u64 0, .int .i64 0, .int .i64 0, .int .i64 0, .bool false, .slice none 0 0, .slice none 0 0, .slice none 0 0, .slice none 0 0, .slice none 0 0, .slice none 0 0, .int .i64 0, .string { data := #[] }, .slice none 0 0, .slice none 0 0, .int .i64 0, .int .i64 0, .string { data := #[] }, .slice none 0 0, .bool false, .int .i64 0, .bool false, .string { data := #[] }] 43)) w.heap.size 43 [.int .i64 0, .int .i64 0, .int .u64 0, .int .i64 0, .int .i64 0, .int .i64 0, .bool false, .slice none 0 0, .slice none 0 0, .slice none 0 0, .slice none 0 0, .slice none 0 0, .slice none 0 0, .int .i64 0, .string { data := #[] }, .slice none 0 0, .slice none 0 0, .int .i64 0, .int .i64 0, .string { data := #[] }, .slice none 0 0, .bool false, .int .i64 0, .bool false, .string { data := #[] }] := RowIs.alloc w _ _
  have ha1 := ha.keep ((Keep.refl Nix w).alloc (.cells #[.int .i64 0, .int .i64 0, .int .u64 0, .int .i64 0, .int .i64 0, .int .i64 0, .bool false, .slice none 0 0, .slice none 0 0, .slice none 0 0, .slice none 0 0, .slice none 0 0, .slice none 0 0, .int .i64 0, .string { data := #[] }, .slice none 0 0, .slice none 0 0, .int .i64 0, .int .i64 0, .string { data := #[] }, .slice none 0 0, .bool false, .int .i64 0, .bool false, .string { data := #[] }] 43)) (fun _ _ h => h)
  have hmf : ∀ (fn : Fn) (first cap : Array Value) (w : World), (Instr.makeFunc fn first cap).run Tryz.prog w = .ok (.func fn first cap) w := fun _ _ _ _ => rfl
  have HN := Lib.hid hn
  have kk : Keep Nix w (w.alloc (.cells #[.int .i64 0, .int .i64 0, .int .u64 0, .int .i64 0, .int .i64 0, .int .i64 0, .bool false, .slice none 0 0, .slice none 0 0, .slice none 0 0, .slice none 0 0, .slice none 0 0, .slice none 0 0, .int .i64 0, .string { data := #[] }, .slice none 0 0, .slice none 0 0, .int .i64 0, .int .i64 0, .string { data := #[] }, .slice none 0 0, .bool false, .int .i64 0, .bool false, .string { data := #[] }] 43)) := (Keep.refl Nix w).alloc _
  clear hn ha
  go_enter Tryz.func55, Tryz.ntmps55
  go_wp2_with fail
  go_fit (New_rd a n ca l _ HN.out ha1 hr0)
  rintro e w1 ⟨rd, rfl, hrd, hr, k1⟩
  have hrt := hr.tight
  have rRl0 := rowR.lt
  replace rowR := rowR.keep k1 id
  have rRl := rowR.lt
  have hrd' : w.heap.size < rd := by simp at hrd; omega
  have hrl := hr.lt
  have hr2 := hrt.nix ((Keep.refl Nix w1).alloc (.cells #[.pointer (some ⟨rd, 0, none⟩)] 154))
  have rowR2 := rowR.keep ((Keep.refl Nix w1).alloc (.cells #[.pointer (some ⟨rd, 0, none⟩)] 154)) id
  have kk2 : Keep Nix w (w1.alloc (.cells #[.pointer (some ⟨rd, 0, none⟩)] 154)) := (kk.trans k1).alloc _
  have hs1 : w1.heap.size ≤ (w1.alloc (.cells #[.pointer (some ⟨rd, 0, none⟩)] 154)).heap.size := by simp
  clear hr hrt k1 kk ha1 rowR hrd
  go_wp2_with fail
  go_fit (allCommand_c rd _ ⟨l, 0, 0, []⟩ _ hr2 (fun b hb => Nat.lt_of_lt_of_le hb.2 hs1))
  rintro e w2 ⟨cs, rfl, hc, ho, k2⟩
  have hlc := Lib.hid (wGCommand_lawful.len hc)
  have HO := Lib.hid ho
  have hT : Hid (takeP pGCommand zGCommand l = endP zGCommand (pGCommand ⟨l, 0, 0, []⟩)) := rfl
  generalize endP zGCommand (pGCommand ⟨l, 0, 0, []⟩) = y at hc hT ⊢
  replace rowR2 := rowR2.keep k2 (by omega)
  have kk3 : Keep Nix w w2 := kk2.then k2 (fun i hi e => by omega)
  have hst := store_run (P := Tryz.prog) (cs := cs) S_Command rowR2 rfl hlc.out HO.out
  have rowF := rowR2.setRow cs
  have kS := (Keep.refl (· = w.heap.size) w2).setRow (fun _ => rfl) cs.toArray
  have hin : (Tryz.prog.info? 43).map (·.size) = some cs.toArray.size := by rw [List.size_toArray, hlc.out]; exact S_Command.info
  have HIN := Lib.hid hin
  have hs3 := k2.size
  clear hin ho hr2 k2 kk2
  go_wp2_with fail
  refine bodyPost_ret (results_cell_row2 (by rfl) _ _ _ _ _ _ _ (by rfl) rowF Tryz.underlying43 (by rfl) HIN.out) rfl ?_
  rw [hT.out]
  exact ⟨cs, rfl, wGCommand_lawful.mono (wGCommand_lawful.keep hc kS (fun b hb e => by have := hb.1; omega)) (fun b hb => (⟨by have := hb.1; omega, by have := hb.2; have := kS.size; omega⟩ : NewIn w (w2.setRow w.heap.size cs.toArray) b)), HO.out, kk3.then kS (fun i hi e => by omega)⟩
end
theorem lda_Reply (a : Act) (dst : Option Tmp) (x : Operand) (ty : TypeId) (pos : String) (after : Array Edge) (guard : Option (Nat × Bool)) : execOp a.eval { dst := dst, op := .load 55 x, type := ty, pos := pos, after := after, guard := guard } = wholeSem 55 (a.eval x) := rfl
section
attribute [local go_sem ↓] lda_Reply st_Reply
set_option maxRecDepth 100000 in
set_option maxHeartbeats 8000000 in
theorem allReply_c (rd : Nat) (p : Nat → Prop) (s : RdS) (w : World) (h : IsRd w 151 rd p s) (hpl : ∀ b, p b → b < w.heap.size) :
    Calls Tryz.prog 82 #[.agg #[.pointer (some ⟨rd, 0, none⟩)], .func (.func 83) #[.agg #[.pointer (some ⟨rd, 0, none⟩)]] #[]] w (TookR wGReply rd w (endP zGReply (pGReply s))) := by
  have hlt := h.lt
  have hsz : (w.alloc (.cells #[.pointer (some ⟨rd, 0, none⟩)] 154)).heap.size = w.heap.size + 1 := by simp
  have rowB : RowIs ((w.alloc (.cells #[.pointer (some ⟨rd, 0, none⟩)] 154)).alloc (.cells #[.int .i64 0, .int .u64 0, .int .i64 0, .bool false, .slice none 0 0, .slice none 0 0, .int .i64 0, .int .i64 0, .slice none 0 0, .slice none 0 0, .int .i64 0, .int .i64 0, .slice none 0 0, .int .i64 0, .slice none 0 0] 55)) w.heap.size 154 [.pointer (some ⟨rd, 0, none⟩)] := (RowIs.alloc w _ _).keep ((Keep.refl Nix _).alloc _) id
  have rowR : RowIs ((w.alloc (.cells #[.pointer (some ⟨rd, 0, none⟩)] 154)).alloc (.cells #[.int .i64 0, .int .u64 0, .int .i64 0, .bool false, .slice none 0 0, .slice none 0 0, .int .i64 0, .int .i64 0, .slice none 0 0, .slice none 0 0, .int .i64 0, .int .i64 0, .slice none 0 0, .int .i64 0, .slice none 0 0] 55)) (w.heap.size + 1) 55 [.int .i64 0, .int .u64 0, .int .i64 0, .bool false, .slice none 0 0, .slice none 0 0, .int .i64 0, .int .i64 0, .slice none 0 0, .slice none 0 0, .int .i64 0, .int .i64 0, .slice none 0 0, .int .i64 0, .slice none 0 0] := by
    rw [← hsz]
    exact RowIs.alloc (w.alloc (.cells #[.pointer (some ⟨rd, 0, none⟩)] 154)) _ _
  have hr := h.nix (((Keep.refl Nix w).alloc (.cells #[.pointer (some ⟨rd, 0, none⟩)] 154)).alloc (.cells #[.int .i64 0, .int .u64 0, .int .i64 0, .bool false, .slice none 0 0, .slice none 0 0, .int .i64 0, .int .i64 0, .slice none 0 0, .slice none 0 0, .int .i64 0, .int .i64 0, .slice none 0 0, .int .i64 0, .slice none 0 0] 55))
  have kk : Keep (· = rd) w ((w.alloc (.cells #[.pointer (some ⟨rd, 0, none⟩)] 154)).alloc (.cells #[.int .i64 0, .int .u64 0, .int .i64 0, .bool false, .slice none 0 0, .slice none 0 0, .int .i64 0, .int .i64 0, .slice none 0 0, .slice none 0 0, .int .i64 0, .int .i64 0, .slice none 0 0, .int .i64 0, .slice none 0 0] 55)) := ((Keep.refl (· = rd) w).alloc _).alloc _
  clear h hsz
  go_enter Tryz.func82, Tryz.ntmps82
  go_wp2_with fail
  go_fit (gReply_c rd p _ _ hr (fun b hb => Nat.lt_of_lt_of_le (hpl b hb) kk.size))
  rintro e w1 ⟨cs, rfl, hc, ho, hr1, k1⟩
  have hlc := Lib.hid (wGReply_lawful.len hc)
  have HO := Lib.hid ho
  clear ho hr
  obtain ⟨y, HY⟩ : ∃ y, Hid (pGReply s = y) := ⟨_, rfl⟩
  rw [HY.out] at hc hr1
  have rRl0 := rowR.lt
  replace rowB := rowB.keep k1 (by omega)
  replace rowR := rowR.keep k1 (by omega)
  have rRl := rowR.lt
  have hrl := hr1.lt
  have hst0 := store_run (P := Tryz.prog) (cs := cs) S_Reply (RowIs.alloc w1 #[.int .i64 0, .int .u64 0, .int .i64 0, .bool false, .slice none 0 0, .slice none 0 0, .int .i64 0, .int .i64 0, .slice none 0 0, .slice none 0 0, .int .i64 0, .int .i64 0, .slice none 0 0, .int .i64 0, .slice none 0 0] 55) rfl hlc.out HO.out
  have rowV := (RowIs.alloc w1 #[.int .i64 0, .int .u64 0, .int .i64 0, .bool false, .slice none 0 0, .slice none 0 0, .int .i64 0, .int .i64 0, .slice none 0 0, .slice none 0 0, .int .i64 0, .int .i64 0, .slice none 0 0, .int .i64 0, .slice none 0 0] 55).setRow cs
  have kT := ((Keep.refl (· = w1.heap.size) w1).alloc (.cells #[.int .i64 0, .int .u64 0, .int .i64 0, .bool false, .slice none 0 0, .slice none 0 0, .int .i64 0, .int .i64 0, .slice none 0 0, .slice none 0 0, .int .i64 0, .int .i64 0, .slice none 0 0, .int .i64 0, .slice none 0 0] 55)).setRow (fun _ => rfl) cs.toArray
  replace rowB := rowB.keep kT (by omega)
  replace rowR := rowR.keep kT (by omega)
  have hr2 := hr1.keep kT (by omega) (fun b hb e => by have := hpl b hb; omega)
  have kk2 : Keep (· = rd) w ((w1.alloc (.cells #[.int .i64 0, .int .u64 0, .int .i64 0, .bool false, .slice none 0 0, .slice none 0 0, .int .i64 0, .int .i64 0, .slice none 0 0, .slice none 0 0, .int .i64 0, .int .i64 0, .slice none 0 0, .int .i64 0, .slice none 0 0] 55)).setRow w1.heap.size cs.toArray) := (kk.trans k1).then kT (fun i hi e => by omega)
  have hs2 : w.heap.size + 2 ≤ ((w.alloc (.cells #[.pointer (some ⟨rd, 0, none⟩)] 154)).alloc (.cells #[.int .i64 0, .int .u64 0, .int .i64 0, .bool false, .slice none 0 0, .slice none 0 0, .int .i64 0, .int .i64 0, .slice none 0 0, .slice none 0 0, .int .i64 0, .int .i64 0, .slice none 0 0, .int .i64 0, .slice none 0 0] 55)).heap.size := by simp
  replace hc := wGReply_lawful.keep hc kT (fun b hb e => by have := hb.2; omega)
  have xB : ((w1.alloc (.cells #[.int .i64 0, .int .u64 0, .int .i64 0, .bool false, .slice none 0 0, .slice none 0 0, .int .i64 0, .int .i64 0, .slice none 0 0, .slice none 0 0, .int .i64 0, .int .i64 0, .slice none 0 0, .int .i64 0, .slice none 0 0] 55)).setRow w1.heap.size cs.toArray).cell? ⟨w.heap.size, 0, none⟩ = some (.pointer (some ⟨rd, 0, none⟩)) := rowB.cell 0
  clear k1 kT hr1 rowB kk
  go_wp2_with fail
  go_fit (End_rd rd p y.2 _ hr2)
  rintro e w2 ⟨rfl, k2⟩
  clear xB hst0
  replace rowR := rowR.keep k2 id
  replace rowV := rowV.keep k2 id
  replace hc := wGReply_lawful.nix hc k2
  have kk3 := kk2.trans k2.nix
  have rRl2 := rowV.lt
  clear hr2 k2 kk2
  rcases test_eq (endS y.2) 0 with ⟨t, he⟩ | ⟨t, he⟩
  · have t' : (endS y.2 != 0) = false := by simp [he.out]
    have hld : (wholeSem 55 (.pointer (some ⟨w1.heap.size, 0, none⟩))).run Tryz.prog w2 = .ok (.value (.agg cs.toArray)) w2 := Whole.row S_Reply hlc.out rowV
    have hst := store_run (P := Tryz.prog) (cs := cs) S_Reply rowR rfl hlc.out HO.out
    have rowF := rowR.setRow cs
    have kS := (Keep.refl (· = w.heap.size + 1) w2).setRow (fun _ => rfl) cs.toArray
    have hin : (Tryz.prog.info? 55).map (·.size) = some cs.toArray.size := by rw [List.size_toArray, hlc.out]; exact S_Reply.info
    have HIN := Lib.hid hin
    clear hin rowV
    go_wp2_with fail
    refine bodyPost_ret (results_cell_row2 (by rfl) _ _ _ _ _ _ _ (by rfl) rowF Tryz.underlying55 (by rfl) HIN.out) rfl ?_
    rw [HY.out, endP_ok he.out]
    exact ⟨cs, rfl, wGReply_lawful.mono (wGReply_lawful.keep hc kS (fun b hb e => by have := hb.1; omega)) (fun b hb => (⟨by have := hb.1; omega, by have := hb.2; have := kS.size; omega⟩ : NewIn w (w2.setRow (w.heap.size + 1) cs.toArray) b)), HO.out, kk3.then kS (fun i hi e => by omega)⟩
  · have t' : (endS y.2 != 0) = true := by simp [he]
    have HE := Lib.hid he
    clear he
    have rowN : RowIs (w2.alloc (.cells #[.int .i64 0, .int .u64 0, .int .i64 0, .bool false, .slice none 0 0, .slice none 0 0, .int .i64 0, .int .i64 0, .slice none 0 0, .slice none 0 0, .int .i64 0, .int .i64 0, .slice none 0 0, .int .i64 0, .slice none 0 0] 55)) w2.heap.size 55 [.int .i64 0, .int .u64 0, .int .i64 0, .bool false, .slice none 0 0, .slice none 0 0, .int .i64 0, .int .i64 0, .slice none 0 0, .slice none 0 0, .int .i64 0, .int .i64 0, .slice none 0 0, .int .i64 0, .slice none 0 0] := RowIs.alloc w2 _ _
    have rowR2 := rowR.keep ((Keep.refl Nix w2).alloc (.cells #[.int .i64 0, .int .u64 0, .int .i64 0, .bool false, .slice none 0 0, .slice none 0 0, .int .i64 0, .int .i64 0, .slice none 0 0, .slice none 0 0, .int .i64 0, .int .i64 0, .slice none 0 0, .int .i64 0, .slice none 0 0] 55)) id
    have hld : (wholeSem 55 (.pointer (some ⟨w2.heap.size, 0, none⟩))).run Tryz.prog (w2.alloc (.cells #[.int .i64 0, .int .u64 0, .int .i64 0, .bool false, .slice none 0 0, .slice none 0 0, .int .i64 0, .int .i64 0, .slice none 0 0, .slice none 0 0, .int .i64 0, .int .i64 0, .slice none 0 0, .int .i64 0, .slice none 0 0] 55)) = .ok (.value (.agg #[.int .i64 0, .int .u64 0, .int .i64 0, .bool false, .slice none 0 0, .slice none 0 0, .int .i64 0, .int .i64 0, .slice none 0 0, .slice none 0 0, .int .i64 0, .int .i64 0, .slice none 0 0, .int .i64 0, .slice none 0 0])) (w2.alloc (.cells #[.int .i64 0, .int .u64 0, .int .i64 0, .bool false, .slice none 0 0, .slice none 0 0, .int .i64 0, .int .i64 0, .slice none 0 0, .slice none 0 0, .int .i64 0, .int .i64 0, .slice none 0 0, .int .i64 0, .slice none 0 0] 55)) := Whole.row S_Reply rfl rowN
    have hst := store_run (P := Tryz.prog) (cs := [.int .i64 0, .int .u64 0, .int .i64 0, .bool false, .slice none 0 0, .slice none 0 0, .int .i64 0, .int .i64 0, .slice none 0 0, .slice none 0 0, .int .i64 0, .int .i64 0, .slice none 0 0, .int .i64 0, .slice none 0 0]) S_Reply rowR2 rfl rfl rfl
    have rowF := rowR2.setRow [.int .i64 0, .int .u64 0, .int .i64 0, .bool false, .slice none 0 0, .slice none 0 0, .int .i64 0, .int .i64 0, .slice none 0 0, .slice none 0 0, .int .i64 0, .int .i64 0, .slice none 0 0, .int .i64 0, .slice none 0 0]
    have kS := ((Keep.refl (· = w.heap.size + 1) w2).alloc (.cells #[.int .i64 0, .int .u64 0, .int .i64 0, .bool false, .slice none 0 0, .slice none 0 0, .int .i64 0, .int .i64 0, .slice none 0 0, .slice none 0 0, .int .i64 0, .int .i64 0, .slice none 0 0, .int .i64 0, .slice none 0 0] 55)).setRow (fun _ => rfl) (#[.int .i64 0, .int .u64 0, .int .i64 0, .bool false, .slice none 0 0, .slice none 0 0, .int .i64 0, .int .i64 0, .slice none 0 0, .slice none 0 0, .int .i64 0, .int .i64 0, .slice none 0 0, .int .i64 0, .slice none 0 0] : Array Value)
    clear rowN rowV rowR2
    go_wp2_with fail
    refine bodyPost_ret (results_cell_row2 (by rfl) _ _ _ _ _ _ _ (by rfl) rowF Tryz.underlying55 (by rfl) S_Reply.info) rfl ?_
    rw [HY.out, endP_no HE.out]
    exact ⟨[.int .i64 0, .int .u64 0, .int .i64 0, .bool false, .slice none 0 0, .slice none 0 0, .int .i64 0, .int .i64 0, .slice none 0 0, .slice none 0 0, .int .i64 0, .int .i64 0, .slice none 0 0, .int .i64 0, .slice none 0 0], rfl, zGReply_w _ _, rfl, kk3.then kS (fun i hi e => by omega)⟩
end
section
attribute [local go_sem ↓] st_Reply
set_option maxRecDepth 100000 in
set_option maxHeartbeats 8000000 in
theorem wTakeReply_c {p : Nat → Prop} (a : Option Addr) (n ca : Nat) (l : List UInt8) (w : World) (hn : l.length = n) (ha : Lies w p a (l.map bv)) (hr0 : n ≤ 140737488355328) :
    Calls Tryz.prog 44 #[.slice a n ca] w (Took wGReply w (takeP pGReply zGReply l)) := by
  have rowR : RowIs (w.alloc (.cells #[.int .i64 0, .int .u64 0, .int .i64 0, .bool false, .slice none 0 0, .slice none 0 0, .int .i64 0, .int .i64 0, .slice none 0 0, .slice none 0 0, .int .i64 0, .int .i64 0, .slice none 0 0, .int .i64 0, .slice none 0 0] 55)) w.heap.size 55 [.int .i64 0, .int .u64 0, .int .i64 0, .bool false, .slice none 0 0, .slice none 0 0, .int .i64 0, .int .i64 0, .slice none 0 0, .slice none 0 0, .int .i64 0, .int .i64 0, .slice none 0 0, .int .i64 0, .slice none 0 0] := RowIs.alloc w _ _
  have ha1 := ha.keep ((Keep.refl Nix w).alloc (.cells #[.int .i64 0, .int .u64 0, .int .i64 0, .bool false, .slice none 0 0, .slice none 0 0, .int .i64 0, .int .i64 0, .slice none 0 0, .slice none 0 0, .int .i64 0, .int .i64 0, .slice none 0 0, .int .i64 0, .slice none 0 0] 55)) (fun _ _ h => h)
  have hmf : ∀ (fn : Fn) (first cap : Array Value) (w : World), (Instr.makeFunc fn first cap).run Tryz.prog w = .ok (.func fn first cap) w := fun _ _ _ _ => rfl
  have HN := Lib.hid hn
  have kk : Keep Nix w (w.alloc (.cells #[.int .i64 0, .int .u64 0, .int .i64 0, .bool false, .slice none 0 0, .slice none 0 0, .int .i64 0, .int .i64 0, .slice none 0 0, .slice none 0 0, .int .i64 0, .int .i64 0, .slice none 0 0, .int .i64 0, .slice none 0 0] 55)) := (Keep.refl Nix w).alloc _
  clear hn ha
  go_enter Tryz.func44, Tryz.ntmps44
  go_wp2_with fail
  go_fit (New_rd a n ca l _ HN.out ha1 hr0)
  rintro e w1 ⟨rd, rfl, hrd, hr, k1⟩
  have hrt := hr.tight
  have rRl0 := rowR.lt
  replace rowR := rowR.keep k1 id
  have rRl := rowR.lt
  have hrd' : w.heap.size < rd := by simp at hrd; omega
  have hrl := hr.lt
  have hr2 := hrt.nix ((Keep.refl Nix w1).alloc (.cells #[.pointer (some ⟨rd, 0, none⟩)] 154))
  have rowR2 := rowR.keep ((Keep.refl Nix w1).alloc (.cells #[.pointer (some ⟨rd, 0, none⟩)] 154)) id
  have kk2 : Keep Nix w (w1.alloc (.cells #[.pointer (some ⟨rd, 0, none⟩)] 154)) := (kk.trans k1).alloc _
  have hs1 : w1.heap.size ≤ (w1.alloc (.cells #[.pointer (some ⟨rd, 0, none⟩)] 154)).heap.size := by simp
  clear hr hrt k1 kk ha1 rowR hrd
  go_wp2_with fail
  go_fit (allReply_c rd _ ⟨l, 0, 0, []⟩ _ hr2 (fun b hb => Nat.lt_of_lt_of_le hb.2 hs1))
  rintro e w2 ⟨cs, rfl, hc, ho, k2⟩
  have hlc := Lib.hid (wGReply_lawful.len hc)
  have HO := Lib.hid ho
  have hT : Hid (takeP pGReply zGReply l = endP zGReply (pGReply ⟨l, 0, 0, []⟩)) := rfl
  generalize endP zGReply (pGReply ⟨l, 0, 0, []⟩) = y at hc hT ⊢
  replace rowR2 := rowR2.keep k2 (by omega)
  have kk3 : Keep Nix w w2 := kk2.then k2 (fun i hi e => by omega)
  have hst := store_run (P := Tryz.prog) (cs := cs) S_Reply rowR2 rfl hlc.out HO.out
  have rowF := rowR2.setRow cs
  have kS := (Keep.refl (· = w.heap.size) w2).setRow (fun _ => rfl) cs.toArray
  have hin : (Tryz.prog.info? 55).map (·.size) = some cs.toArray.size := by rw [List.size_toArray, hlc.out]; exact S_Reply.info
  have HIN := Lib.hid hin
  have hs3 := k2.size
  clear hin ho hr2 k2 kk2
  go_wp2_with fail
  refine bodyPost_ret (results_cell_row2 (by rfl) _ _ _ _ _ _ _ (by rfl) rowF Tryz.underlying55 (by rfl) HIN.out) rfl ?_
  rw [hT.out]
  exact ⟨cs, rfl, wGReply_lawful.mono (wGReply_lawful.keep hc kS (fun b hb e => by have := hb.1; omega)) (fun b hb => (⟨by have := hb.1; omega, by have := hb.2; have := kS.size; omega⟩ : NewIn w (w2.setRow w.heap.size cs.toArray) b)), HO.out, kk3.then kS (fun i hi e => by omega)⟩
end
end Go.Proofs.YtibaehlfpgipfaaGreat
