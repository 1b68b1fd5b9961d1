/- Runs of an algorithm, on the machine. Conditions: problems, algorithms and sequences that are right. -/
import Derived.Test.YtnblieajjclipaaGreatZGWI
set_option linter.all false
namespace Go.Proofs.YtnblieajjclipaaGreat
open Go Go.RowKit Am
structure OQ (m s:List (List Int)) (ws:List Int) (ns:List (List (List Int))):Prop where
 lo:1<=ns.length
 hi:ns.length<=4
 len:ws.length=ns.length
 w:∀ i,i<ns.length->1<=ws.getD i 0/\ws.getD i 0<=9
 ws:∀ w∈ws,1<=w/\w<=9
 alg:∀ i,i<ns.length->aeB m s (ns.getD i [])=true
theorem OQ.sum {m s:List (List Int)} {ws:List Int} {ns:List (List (List Int))} (h:OQ m s ws ns):1<=ws.sum/\ws.sum<=36:=by
 have h1:=wS (xs:=ws) (B:=9) fun w hw=>by have:=h.ws w hw;omega
 have h2:=h.hi
 have h3:=h.len
 refine ⟨?_,by omega⟩
 match ws,h.len,h.ws,h.lo with
 | [],e,_,lo=>simp at e;omega
 | w::ws,_,hw,_ =>
  have h4:=hw w (by simp)
  have h5:=wS (xs:=ws) (B:=9) fun w hw'=>by have:=hw w (by simp [hw']);omega
  simp only [List.sum_cons]
  omega
theorem OQ.fits {m s:List (List Int)} {ws:List Int} {ns:List (List (List Int))} (h:OQ m s ws ns):OT ws:=OD (B:=9) (fun w hw=>by have:=h.ws w hw;omega) (by have:=h.hi;have:=h.len;omega) (by omega)
theorem KN {m s:List (List Int)} {x:Nat} {rs:List Int} (ht:bH m s x rs=true) (hp:bg m s=true) (hx:x<m.length) (hq:lX s.length rs) (hl:rs.length<=60) :
  Does Tryz.prog 30 [prA m s,.int x,.sl (.ints rs)] (.imm (.tup [.one (.b (.val (.int .i64 (IC m s x rs)))),.one (.b (.val (.bool true)))])):=by
 refine aF Tryz.func30 rfl Tryz.ntmps30 aQ (fun _ _=>by kernel_rfl) rfl (Nat.le_of_ble_eq_true rfl) ?_
 intro M0 w0
 rw [Tryz.results30]
 refine ah ?_
 ((try refine Or.inl ?_);refine ⟨_,(rZ m s x rs),.inl rfl,?_⟩;refine amC ?_)
 rw [ht]
 refine ah ?_
 refine aj amQ (fun hc =>?_) (fun hc =>?_)
 ·simp at hc
 refine ah ?_
 ((try refine Or.inl ?_);refine ⟨_,(KL m s x rs hp hx hq (by omega)),.inl rfl,?_⟩;refine amC ?_)
 refine ah ?_
 (simp only [xec,simprocAttr];refine ⟨[_,_],⟨rfl,rfl,trivial⟩,rfl,Imp.eq ?_⟩)
 rfl
end Go.Proofs.YtnblieajjclipaaGreat
