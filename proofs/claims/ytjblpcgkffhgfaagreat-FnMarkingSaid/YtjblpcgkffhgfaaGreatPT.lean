/- Metrics: is there a detour, by the program's and the reference's functions. Conditions: the table is right. -/
import Derived.Test.YtjblpcgkffhgfaaGreatGMA
set_option linter.all false
set_option linter.unusedSimpArgs false
set_option linter.unusedVariables false
namespace Go.Proofs.YtjblpcgkffhgfaaGreat
open Go.RowKit

/-- what a square table of small numbers is in memory: its head, its rows, its numbers -/
structure TabAt (w:World) (u:Value) (m:List (List Int)) (n:Nat) (ad:Addr) (c:Nat):Prop where
  val:u = .slice (some ad) n c
  len:m.length=n
  pos:0<n
  le:n≤6
  cap:n≤c
  row:∀ x,x<n→∃ ax cx,w.cell? (ad.add x)=some (.slice (some ax) n cx)∧n≤cx∧∀ y,y<n→w.cell? (ax.add y)=some (.int .i64 (at2 m x y))
  num:∀ x y,x<n→y<n→0≤at2 m x y∧at2 m x y≤99
theorem TabAt.keep {w w':World} {u:Value} {m:List (List Int)} {n:Nat} {ad:Addr} {c:Nat} (h:TabAt w u m n ad c) (hb:Below w.heap.size w w'):TabAt w' u m n ad c :=
  ⟨h.val,h.len,h.pos,h.le,h.cap,fun x hx=>by
    obtain ⟨ax,cx,h1,h2,h3⟩:=h.row x hx
    exact ⟨ax,cx,(hb.cell (block_lt h1)).trans h1,h2,fun y hy=>(hb.cell (block_lt (h3 y hy))).trans (h3 y hy)⟩,h.num⟩

end Go.Proofs.YtjblpcgkffhgfaaGreat
/- Metrics: is a table of distances right, by the reference's function. Conditions: none. -/
set_option linter.all false
set_option linter.unusedSimpArgs false
set_option linter.unusedVariables false
namespace Go.Proofs.YtjblpcgkffhgfaaGreat
open Go.RowKit

end Go.Proofs.YtjblpcgkffhgfaaGreat
