/- ROOT: the law RootLoads: its arguments. Printed by mac.py. -/
import Derived.Test.YtibaehlfpgipfaaGreatQZG51
namespace Go.Proofs.YtibaehlfpgipfaaGreat
open Go.RowKit
namespace rootLoads
theorem walk{m0 m1:Nat}(W:World)(v0 v1:Value)(h0:Arg Tryz.prog W m0 22 v0)(h1:Arg Tryz.prog W m1 30 v1) :
  Calls Tryz.prog 4 #[v0,v1] W fun e w'=>e=.returned (.bool true)∧Keep Nix W w':=by
 obtain⟨a,n,cap,rfl,hr⟩:=h0.slice Tryz.underlying22
 obtain⟨ls,hl,-⟩:=Red.toList (sz:=27) (by':=400) (R:=rGOp) GOp.size Tryz.underlying22 (by kernel_rfl) (by kernel_rfl) (by decide) (by decide) (fun h=>redGOp h) hr
 obtain⟨rfl,-,-⟩:=ja0 hl
 obtain⟨b,n1,cb,rfl,h3⟩:=h1.slice Tryz.underlying30
 obtain⟨lb,hn,hb,h4,h5,-⟩:=jj4 Tryz.underlying30 Tryz.underlying5 (by kernel_rfl) (by kernel_rfl) h3
 subst hn
 exact jlF W a cap ls hl b cb lb hb (by omega)
end rootLoads
end Go.Proofs.YtibaehlfpgipfaaGreat
