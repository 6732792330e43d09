/- An append beside known blocks. -/
import Derived.Test.YtmhpfoicloojcaaGreatDoorZae
import Derived.WalkSpells
set_option linter.all false
open Go renaming Value→aA,TypeId→aB
namespace Go.Proofs.YtmhpfoicloojcaaGreatDoor
set_option maxRecDepth 100000
set_option maxHeartbeats 16000000
section
open Go Go.RowKit
variable {w w':World}
theorem BlkIs.kept {row:Option Nat} {g:Nat} {t:aB} {cs:List aA} (h:BlkIs w g t cs) (hg:w.grownBy w' row) (hne:some g≠row):BlkIs w' g t cs:=(hg.block g h.lt hne).trans h
theorem BlkIs.not_row {g:Nat} {t e:aB} {cs:List aA} (h:BlkIs w g t cs) (hte:t≠e) {base size k:Nat} {v:aA} {xs:List aA} (hr:w.ownsRow base e size v k xs):some g≠v.ownBlock:=by
 rcases hr.2 with⟨rfl,_⟩|⟨g',cap,cur,rfl,_,hgb,_⟩
 . simp[Value.ownBlock]
 . intro a;obtain rfl:g=g':=by simpa[Value.ownBlock]using a
   have:=(show w.heap[g]? =_ from h).symm.trans hgb;simp at this;exact hte this.2
theorem Below.appended {B:Nat} {a w1:World} (h:Below B a w) (hB:B<=w.heap.size) {e:aB} {size k:Nat} {v:aA} {xs:List aA} {tmp:Obj} (hr:w.ownsRow B e size v k xs)
 (hg:(w.alloc tmp).grownBy w1 v.ownBlock):Below B a w1:=by
  have c:=h.alloc hB tmp;have b:=hg.size;refine c.trans ⟨hg.os,hg.tape,hg.output,b,fun k f=>hg.block k (by simp;omega) fun d=>?_⟩;have:=hr.lt k d.symm;omega
theorem Upd.grown {b:Nat} (h:Upd b w w'):w.grownBy w' (some b):=⟨h.os,h.tape,h.output,h.size,fun k hk hn=>h.block k hk fun e=>hn (e▸rfl)⟩
theorem aJw {b:Nat} (hu:Upd b w w') {t e:aB} {cs:List aA} (hb:BlkIs w b t cs) (hte:t≠e) {base size k:Nat} {v:aA} {xs:List aA} (hr:w.ownsRow base e size v k xs):w'.ownsRow base e size v k xs:=
 hr.kept hu.grown (.inr (hb.not_row hte hr).symm)
theorem aAr {B:Nat} (hb:Below w w w') {e:aB} {size k:Nat} {v:aA} {xs:List aA} (hr:w.ownsRow B e size v k xs):w'.ownsRow B e size v k xs:=by
 refine hr.kept (row:=none) ⟨hb.os,hb.tape,hb.output,hb.size,fun k a _=>hb.block k a⟩ ?_;cases v.ownBlock <;> simp
theorem aDc {base:Nat} {e:aB} {k:Nat} {v:aA} {xs:List aA} (h:w.ownsRow base e 1 v k xs) (hk:0<k) :
 ∃g cap cs,v= .slice (some (g,0)) k cap/\base<=g/\BlkIs w g e cs/\k<=cap/\cap<=maxLen/\cs.take k=xs:=by
 rcases h.2 with⟨_,h0⟩|⟨g,cap,cur,rfl,hb,hgb,hkc,hm,_,ht⟩
 . omega
 . exact⟨g,cap,cur.toList,rfl,hb,by simpa[BlkIs]using hgb,hkc,hm,by simpa using ht⟩
end
end Go.Proofs.YtmhpfoicloojcaaGreatDoor
