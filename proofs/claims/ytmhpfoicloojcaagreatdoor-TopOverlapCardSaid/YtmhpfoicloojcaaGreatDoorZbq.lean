/- The pool. -/
import Derived.Test.YtmhpfoicloojcaaGreatDoorZao
import Derived.Deep.DeepCutAuto
import Derived.Deep.CutBlock
set_option linter.all false
namespace Go.Proofs.YtmhpfoicloojcaaGreatDoor
set_option maxRecDepth 100000
set_option maxHeartbeats 16000000
section
open Go.Proofs.Tryz
open Go Go.RowKit Go.Shelf
attribute [local go_sem] Oper.semAt_some
theorem aUg:prog.underlying 142=some (.map 9 143):=underlying142
theorem aZt:prog.underlying 9=some .string:=underlying9
theorem aSc (P U E:Nat) (hPU:P≠U) (hPE:P≠E) (hUE:U≠E) (key:ByteArray) (sA:Option Addr) (sn sc uc:Nat) (k0 k1 k2:Value) (hsn:1<=sn) (w:World)
 (hP:BlkIs w P 149 [k0,k1,k2,.pointer (some (P,0)),.pointer (some (P,0)),(10:Int),.slice sA sn sc,.slice (some (U,0)) 1 uc,.map (some E),(10:Int)])
 (hU:BlkIs w U 3 [()]) (hE:MapIs w E #[] 0) :
 Calls prog 27 #[.pointer (some (P,0)),(),.string key,(1:Int)] w fun e w'=>e= .returned (.tuple #[.slice none 0 0,true])/\Ch [P,U,E] w w':=by
 have F:=hP.lt;have D:=hU.lt;have G:=hE.lt;obtain⟨h,M,N,g,l⟩:=bB6 w [.pointer (some (P,0))] 79;go_enter func27,ntmps27
 go_upto_region 1 with fail
 rw[<-N.out];have b0:=l.c0;obtain⟨r,A,s⟩:=aAw (hP.later g.out) (hU.later g.out) (hE.later g.out);obtain⟨-,-,-,-,-,-,R,-,Q,O⟩:=r.C10;have C:=(s.none_at (k:= .string key) (z:= .pointer none) aUg aZt trivial (zeroValue143 _)).2;clear hP hU hE;go_step3
 go_wp2_with fail
 go_step3
 go_wp2_with fail
 go_loopw [13] (fun T wr=>T= .slice none 0 0/\wr=h) (fun _ _=>0)
 case atStart=>exact⟨rfl,rfl⟩
 case round=>
  obtain⟨rfl,m⟩:=hrel;rw[m];clear m wr;have b1:(h.alloc (.cells #[.string key,(),(1:Int),.pointer none,.pointer none] 145)).cell? (w,0)=some (.pointer (some (P,0))):=(l.alloc _).cell 0;go_wp2_with fail
  have H:BlkIs (h.alloc (.cells #[.string key,(),(1:Int),.pointer none,.pointer none] 145)) h.heap.size 145 [.string key,(),(1:Int),.pointer none,.pointer none]:=aAo _ _ _ rfl;replace r:=hid (r.alloc (.cells #[.string key,(),(1:Int),.pointer none,.pointer none] 145));replace A:=hid (A.alloc (.cells #[.string key,(),(1:Int),.pointer none,.pointer none] 145));replace s:=hid (s.alloc (.cells #[.string key,(),(1:Int),.pointer none,.pointer none] 145));replace l:=hid (l.alloc (.cells #[.string key,(),(1:Int),.pointer none,.pointer none] 145));replace g:=hid (Below.next g.out (Below.alloc (Below.refl _ _) (Nat.le_refl _) (.cells #[.string key,(),(1:Int),.pointer none,.pointer none] 145)));obtain⟨x,B⟩:=ex_ h.heap.size;have a:=hid (show w.heap.size<x by rw[B,M.out];omega);rw[<-B]at H⊢;generalize h.alloc (.cells #[.string key,(),(1:Int),.pointer none,.pointer none] 145)=w2 at *;have d:=hid (show P<w.heap.size/\U<w.heap.size/\E<w.heap.size from⟨F,D,G⟩);clear B C R Q O b0 M N;refine(aUt x P (by have:=a.out;omega) _ _ _ _ _ _ _ _ _ _ w2 H r.out).mono ?_;rintro e S ⟨rfl,o,f,i⟩;obtain⟨Y,u,J,K⟩:=aBp (i) (l.ch i (by have:=a.out;have:=d.out;simp;omega)) (A.ch i (by have:=a.out;have:=d.out;simp;omega)) (s.ch i (by have:=a.out;have:=d.out;simp;omega));have V:=aUf (v:= .pointer (some (x,0))) aUg aZt (show MapKept.IsKey .string (.string key)from trivial) K.out;obtain⟨n,q,t,p⟩:=aBp (o.setBlock (c:=E) (by have:=a.out;have:=d.out;omega) (.map #[⟨.string key,.pointer (some (x,0)),0⟩] 1)) (f.setBlock (c:=E) (fun e=>hPE e.symm) (.map #[⟨.string key,.pointer (some (x,0)),0⟩] 1)) (u.setBlock (c:=E) (by have:=a.out;have:=d.out;omega) (.map #[⟨.string key,.pointer (some (x,0)),0⟩] 1)) (J.setBlock (c:=E) (fun e=>hUE e.symm) (.map #[⟨.string key,.pointer (some (x,0)),0⟩] 1));have b3:=u.c0;have y8:=f.c8;have Z:=t.c0;have y:=hid ((((Ch.of_below g.out:Ch [P,U,E] w w2).next i (by have:=a.out;intro j L;simp at L;rcases L with rfl|rfl;right;omega;left;simp)).setBlock (b:=E) (.inl (by simp)) (.map #[⟨.string key,.pointer (some (x,0)),0⟩] 1)));clear i o f l A s H g r b1;go_wp2_with fail
  generalize Go.ChangeMaps.setBlock S E (.map #[⟨.string key,.pointer (some (x,0)),0⟩] 1)=w4 at n q t p y Z⊢;refine(aNv x P U (by have:=a.out;have:=d.out;omega) hPU _ _ _ _ _ _ _ _ _ _ _ _ _ _ w4 n.out q.out p.out (by decide)).mono ?_;rintro e w5 ⟨rfl,X⟩;go_wp2_with fail
  rw[Exit.noGoto_ret];go_ret2
  exact⟨rfl,y.trans (X.mono (by simp))⟩
end
end Go.Proofs.YtmhpfoicloojcaaGreatDoor
