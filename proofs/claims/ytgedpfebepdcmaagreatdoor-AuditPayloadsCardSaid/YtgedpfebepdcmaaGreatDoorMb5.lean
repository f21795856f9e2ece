/- Part 5 of the texts that lead to this claim: the walks of the functions and the plain law, in order. -/
import Derived.Test.YtgedpfebepdcmaaGreatDoorMb4
import Derived.IntWalk
namespace Go.Proofs.YtgedpfebepdcmaaGreatDoor
open Go.RowKit
set_option maxRecDepth 100000
set_option maxHeartbeats 8000000
namespace Stb
variable {α:Type}
def swp (f:Nat->α) (i j:Nat):Nat->α:=fun k=>if k=i then f j else if k=j then f i else f k
def Sw (a b:Nat) (f f':Nat->α):Prop:=∃s t:Nat->Nat,(∀k,f' k=f (s k))/\(∀k,t (s k)=k)/\(∀k,s (t k)=k)/\(∀k,k<a\/b<=k->s k=k)
theorem Sw.refl (a b:Nat) (f:Nat->α):Sw a b f f:=⟨id,id,fun _=>rfl,fun _=>rfl,fun _=>rfl,fun _ _=>rfl⟩
theorem Sw.trans {a b:Nat} {f g h:Nat->α} (h1:Sw a b f g) (h2:Sw a b g h):Sw a b f h:=by
  obtain⟨s,t,e,p,q,o⟩:=h1;obtain⟨s',t',e',p',q',o'⟩:=h2;exact⟨fun k=>s (s' k),fun k=>t' (t k),fun k=>by rw[e',e],fun k=>by dsimp only;rw[p,p'],fun k=>by dsimp only;rw[q',q],fun k hk=>by dsimp only;rw[o' k hk,o k hk]⟩
theorem Sw.wide {a b a' b':Nat} {f g:Nat->α} (h:Sw a b f g) (ha:a'<=a) (hb:b<=b'):Sw a' b' f g:=by
  obtain⟨s,t,e,p,q,o⟩:=h;exact⟨s,t,e,p,q,fun k hk=>o k (by omega)⟩
theorem Sw.swp {a b:Nat} (f:Nat->α) {i j:Nat} (hi:a<=i) (hi':i<b) (hj:a<=j) (hj':j<b):Sw a b f (swp f i j):=by
  have h:∀k,(fun k=>if k=i then j else if k=j then i else k) ((fun k=>if k=i then j else if k=j then i else k) k)=k:=by
    intro k;dsimp only;repeat' split
    all_goals omega
  refine⟨fun k=>if k=i then j else if k=j then i else k,fun k=>if k=i then j else if k=j then i else k,fun k=>?_,h,h,fun k hk=>?_⟩
  · unfold Go.Proofs.YtgedpfebepdcmaaGreatDoor.Stb.swp;dsimp only;repeat' split
    all_goals rfl
  · dsimp only;rw[if_neg (by omega),if_neg (by omega)]
theorem Sw.out {a b:Nat} {f g:Nat->α} (h:Sw a b f g) {k:Nat} (hk:k<a\/b<=k):g k=f k:=by
  obtain⟨s,t,e,p,q,o⟩:=h;rw[e,o k hk]
theorem Sw.at_ {a b:Nat} {f g:Nat->α} (h:Sw a b f g) {k:Nat} (h1:a<=k) (h2:k<b):∃j,a<=j/\j<b/\g k=f j:=by
  obtain⟨s,t,e,p,q,o⟩:=h;refine⟨s k,Classical.byContradiction fun hn=>?_,Classical.byContradiction fun hn=>?_,e k⟩
  · have h3:=o (s k) (.inl (by omega));have h4:s k=k:=by rw[<-p (s k),h3,p]
    omega
  · have h3:=o (s k) (.inr (by omega));have h4:s k=k:=by rw[<-p (s k),h3,p]
    omega
theorem Sw.to_ {a b:Nat} {f g:Nat->α} (h:Sw a b f g) {k:Nat} (h1:a<=k) (h2:k<b):∃j,a<=j/\j<b/\f k=g j:=by
  obtain⟨s,t,e,p,q,o⟩:=h;have e2:∀k,f k=g (t k):=fun k=>(by rw[e,q]);have o2:∀k,k<a\/b<=k->t k=k:=fun k hk=>(by have h5:=p k;rwa [o k hk]at h5);refine⟨t k,Classical.byContradiction fun hn=>?_,Classical.byContradiction fun hn=>?_,e2 k⟩
  · have h3:=o2 (t k) (.inl (by omega));have h4:t k=k:=by rw[<-q (t k),h3,q]
    omega
  · have h3:=o2 (t k) (.inr (by omega));have h4:t k=k:=by rw[<-q (t k),h3,q]
    omega
theorem Sw.inj {a b:Nat} {f g:Nat->α} (h:Sw a b f g) (hf:∀i j,i<b->j<b->f i=f j->i=j):∀i j,i<b->j<b->g i=g j->i=j:=by
  intro i j hi hj he;obtain⟨s,t,e,p,q,o⟩:=h;have hb:∀k,k<b->s k<b:=fun k hk=>Classical.byContradiction fun hn=>by
    have h3:=o (s k) (.inr (by omega));have h4:s k=k:=by rw[<-p (s k),h3,p]
    omega
  rw[e,e]at he;have:=hf _ _ (hb i hi) (hb j hj) he;rw[<-p i,this,p]
def Srt (lt:α->α->Prop) (a b:Nat) (f:Nat->α):Prop:=∀i j,a<=i->i<j->j<b->¬lt (f j) (f i)
def rot (f:Nat->α) (a m b:Nat):Nat->α:=fun k=>if a<=k/\k<a+(b-m)then f (k+(m-a))else if a+(b-m)<=k/\k<b then f (k-(b-m))else f k
def swr (f:Nat->α) (a b n:Nat):Nat->α:=fun k=>if a<=k/\k<a+n then f (k-a+b)else if b<=k/\k<b+n then f (k-b+a)else f k
theorem XD (f:Nat->α) (a b:Nat):swr f a b 0=f:=by
  funext k;unfold swr;rw[if_neg (by omega),if_neg (by omega)]
theorem XE (f:Nat->α) (a b n:Nat) (h:a+n<b):swp (swr f a b n) (a+n) (b+n)=swr f a b (n+1):=by
  funext k;unfold swp swr
  by_cases h1:k=a+n
  · rw[if_pos h1,if_neg (by omega),if_neg (by omega),if_pos (by omega)];congr 1;omega
  · rw[if_neg h1];by_cases h2:k=b+n
    · rw[if_pos h2,if_neg (by omega),if_neg (by omega),if_neg (by omega),if_pos (by omega)];congr 1;omega
    · rw[if_neg h2];by_cases h3:a<=k/\k<a+n
      · rw[if_pos h3,if_pos (by omega)]
      · rw[if_neg h3,if_neg (c:=a<=k/\k<a+(n+1)) (by omega)];by_cases h4:b<=k/\k<b+n
        · rw[if_pos h4,if_pos (by omega)]
        · rw[if_neg h4,if_neg (by omega)]
theorem nL (f:Nat->α) (m i j:Nat) (hi:i<=m) (hj:0<j) (h:j<i):rot (swr f (m-i) m j) (m-(i-j)) m (m+j)=rot f (m-i) m (m+j):=by
  funext k;unfold rot swr
  by_cases h1:m-i<=k/\k<m-i+(m+j-m)
  · rw[if_pos h1,if_neg (by omega),if_neg (by omega),if_pos (by omega)];congr 1;omega
  · rw[if_neg h1];by_cases h2:m-i+(m+j-m)<=k/\k<m+j
    · rw[if_pos h2];by_cases h3:m-(i-j)<=k/\k<m-(i-j)+(m+j-m)
      · rw[if_pos h3];rw[if_neg (by omega),if_pos (by omega)];congr 1;omega
      · rw[if_neg h3,if_pos (by omega),if_neg (by omega),if_neg (by omega)]
    · rw[if_neg h2,if_neg (by omega),if_neg (by omega),if_neg (by omega),if_neg (by omega)]
theorem aU (f:Nat->α) (m i j:Nat) (hi:i<=m) (hi0:0<i) (h:i<j):rot (swr f (m-i) (m+j-i) i) (m-i) m (m+(j-i))=rot f (m-i) m (m+j):=by
  funext k;unfold rot swr
  by_cases h1:m-i<=k/\k<m-i+(m+j-m)
  · rw[if_pos h1];by_cases h3:m-i<=k/\k<m-i+(m+(j-i)-m)
    · rw[if_pos h3];rw[if_neg (by omega),if_neg (by omega)]
    · rw[if_neg h3];by_cases h4:k<m+(j-i)
      · rw[if_pos (by omega),if_pos (by omega)];congr 1;omega
      · omega
  · rw[if_neg h1];by_cases h2:m-i+(m+j-m)<=k/\k<m+j
    · rw[if_pos h2];rw[if_neg (by omega),if_neg (by omega),if_neg (by omega),if_pos (by omega)];congr 1;omega
    · rw[if_neg h2,if_neg (by omega),if_neg (by omega),if_neg (by omega),if_neg (by omega)]
theorem XQ (f:Nat->α) (m i:Nat) (hi:i<=m):swr f (m-i) m i=rot f (m-i) m (m+i):=by
  have e:m+i-m=i:=by omega
  have e2:m-(m-i)=i:=by omega
  funext k;unfold rot swr;rw[e,e2]
  by_cases h1:m-i<=k/\k<m-i+i
  · rw[if_pos h1,if_pos h1];congr 1;omega
  · rw[if_neg h1,if_neg h1];by_cases h2:m<=k/\k<m+i
    · rw[if_pos h2,if_pos (by omega)];congr 1;omega
    · rw[if_neg h2,if_neg (by omega)]
theorem Sw.swr {a b lo hi n:Nat} (f:Nat->α) (h1:lo<=a) (h2:a+n<=b) (h3:b+n<=hi):Sw lo hi f (swr f a b n):=by
  induction n with
  | zero=>rw[XD];exact Sw.refl _ _ _
  | succ n ih =>
    rw[<-XE f a b n (by omega)];exact(ih (by omega) (by omega)).trans (Sw.swp _ (by omega) (by omega) (by omega) (by omega))
section
variable {lt:α->α->Prop}
structure SOrd (lt:α->α->Prop):Prop where
  irr:∀x,¬lt x x
  tr:∀x y z,¬lt y x->¬lt z y->¬lt z x
  asy:∀x y,lt x y->¬lt y x
theorem Srt.le {a b:Nat} {f:Nat->α} (O:SOrd lt) (h:Srt lt a b f) {i j:Nat} (h1:a<=i) (h2:i<=j) (h3:j<b):¬lt (f j) (f i):=by
  rcases Nat.lt_or_eq_of_le h2 with h4 | h4
  · exact h i j h1 h4 h3
  · subst h4;exact O.irr _
theorem Srt.sub {a b a' b':Nat} {f:Nat->α} (h:Srt lt a b f) (h1:a<=a') (h2:b'<=b):Srt lt a' b' f:=fun i j hi hj hb=>h i j (by omega) hj (by omega)
theorem Srt.congr {a b:Nat} {f g:Nat->α} (h:Srt lt a b f) (e:∀k,a<=k->k<b->g k=f k):Srt lt a b g:=fun i j hi hj hb=>by rw[e i hi (by omega),e j (by omega) hb];exact h i j hi hj hb
theorem Srt.join {a m b:Nat} {f:Nat->α} (h1:Srt lt a m f) (h2:Srt lt m b f) (h:∀i j,a<=i->i<m->m<=j->j<b->¬lt (f j) (f i)):Srt lt a b f:=fun i j hi hj hb=>by
  by_cases hm:j<m
  · exact h1 i j hi hj hm
  · by_cases hm2:m<=i
    · exact h2 i j hm2 hj hb
    · exact h i j hi (by omega) (by omega) hb
theorem pZ {a m b mid start e:Nat} {f:Nat->α} (O:SOrd lt) (h1:Srt lt a m f) (h2:Srt lt m b f) (ha:a<=start) (hs:start<=m) (he:m<=e) (heb:e<=b) (hm:start+(e-m)=mid)
    (hlo:a<start->e<b->¬lt (f e) (f (start-1))) (hhi:m<e->start<m->lt (f (e-1)) (f start)) :
    Srt lt a start (rot f start m e)/\Srt lt start mid (rot f start m e)/\Srt lt mid e (rot f start m e)/\Srt lt e b (rot f start m e) /\
    ∀i j,a<=i->i<mid->mid<=j->j<b->¬lt (rot f start m e j) (rot f start m e i):=by
  have r1:∀k,k<start->rot f start m e k=f k:=fun k hk=>(by unfold rot;rw[if_neg (by omega),if_neg (by omega)]);have r2:∀k,start<=k->k<mid->rot f start m e k=f (k+(m-start)):=fun k h hk=>(by unfold rot;rw[if_pos (by omega)]);have r3:∀k,mid<=k->k<e->rot f start m e k=f (k-(e-m)):=fun k h hk=>(by unfold rot;rw[if_neg (by omega),if_pos (by omega)]);have r4:∀k,e<=k->rot f start m e k=f k:=fun k hk=>(by unfold rot;rw[if_neg (by omega),if_neg (by omega)]);refine⟨?_,?_,?_,?_,?_⟩
  · intro i j hi hj hb;rw[r1 i (by omega),r1 j (by omega)];exact h1 i j hi hj (by omega)
  · intro i j hi hj hb;rw[r2 i (by omega) (by omega),r2 j (by omega) (by omega)];exact h2 _ _ (by omega) (by omega) (by omega)
  · intro i j hi hj hb;rw[r3 i (by omega) (by omega),r3 j (by omega) (by omega)];exact h1 _ _ (by omega) (by omega) (by omega)
  · intro i j hi hj hb;rw[r4 i (by omega),r4 j (by omega)];exact h2 _ _ (by omega) (by omega) (by omega)
  · intro i j hi hm1 hm2 hj;by_cases c1:i<start
    · rw[r1 i c1];by_cases c2:j<e
      · rw[r3 j hm2 c2];exact h1.le O hi (by omega) (by omega)
      · rw[r4 j (by omega)];have k1:=h1.le O hi (show i<=start-1 by omega) (by omega);have k2:=hlo (by omega) (by omega);have k3:=h2.le O he (show e<=j by omega) hj;exact O.tr _ _ _ (O.tr _ _ _ k1 k2) k3
    · rw[r2 i (by omega) hm1];by_cases c2:j<e
      · rw[r3 j hm2 c2];have k1:=h2.le O (show m<=i+(m-start) by omega) (show i+(m-start)<=e-1 by omega) (by omega);have k2:=O.asy _ _ (hhi (by omega) (by omega));have k3:=h1.le O ha (show start<=j-(e-m) by omega) (by omega);exact O.tr _ _ _ (O.tr _ _ _ k1 k2) k3
      · rw[r4 j (by omega)];exact h2.le O (by omega) (by omega) hj
theorem VP {a mid b:Nat} {g g1 g2:Nat->α} (h1:Sw a mid g g1) (h2:Sw mid b g1 g2) (s1:Srt lt a mid g1) (s2:Srt lt mid b g2) (hx:∀i j,a<=i->i<mid->mid<=j->j<b->¬lt (g j) (g i)):Srt lt a b g2:=by
  refine Srt.join (s1.congr fun k _ hk=>h2.out (.inl hk)) s2 fun i j hi hm1 hm2 hj=>?_;rw[h2.out (.inl hm1)];obtain⟨i',i1,i2,e1⟩:=h1.at_ hi hm1;obtain⟨j',j1,j2,e2⟩:=h2.at_ hm2 hj;rw[e1,e2,h1.out (.inr j1)];exact hx i' j' i1 i2 j1 j2
theorem XP (f:Nat->α) (i:Nat):rot f i i (i+1)=f:=by
  funext k;unfold rot
  by_cases h1:i<=k/\k<i+(i+1-i)
  · rw[if_pos h1];congr 1;omega
  · rw[if_neg h1,if_neg (by omega)]
theorem rot_one (f:Nat->α) (a:Nat):rot f a (a+1) (a+1)=f:=by
  funext k;unfold rot
  rw[if_neg (by omega)];by_cases h1:a+(a+1-(a+1))<=k/\k<a+1
  · rw[if_pos h1];congr 1;omega
  · rw[if_neg h1]
theorem mP (f:Nat->α) (m e:Nat):rot f m m e=f:=by
  funext k;unfold rot
  by_cases h1:m<=k/\k<m+(e-m)
  · rw[if_pos h1];congr 1;omega
  · rw[if_neg h1,if_neg (by omega)]
theorem mN (f:Nat->α) (s m:Nat):rot f s m m=f:=by
  funext k;unfold rot
  rw[if_neg (by omega)];by_cases h1:s+(m-m)<=k/\k<m
  · rw[if_pos h1];congr 1;omega
  · rw[if_neg h1]
theorem pG (f:Nat->α) (j i:Nat) (h:j<=i):rot f j i (i+1) j=f i:=by
  unfold rot;rw[if_pos (by omega)];congr 1;omega
theorem fG (f:Nat->α) (j i k:Nat) (h:k<j):rot f j i (i+1) k=f k:=by
  unfold rot;rw[if_neg (by omega),if_neg (by omega)]
theorem wY (f:Nat->α) (j i k:Nat) (h:j<k) (hk:k<=i):rot f j i (i+1) k=f (k-1):=by
  unfold rot;rw[if_neg (by omega),if_pos (by omega)];congr 1;omega
theorem i8 (f:Nat->α) (j i k:Nat) (h:i<k) (hj:j<=i):rot f j i (i+1) k=f k:=by
  unfold rot;rw[if_neg (by omega),if_neg (by omega)]
theorem rG (f:Nat->α) (j i:Nat) (h:j<i):swp (rot f (j+1) i (i+1)) (j+1) j=rot f j i (i+1):=by
  funext k;unfold swp
  by_cases h1:k=j+1
  · rw[if_pos h1,h1,fG f _ _ _ (by omega),wY f j i _ (by omega) (by omega)];rfl
  · rw[if_neg h1];by_cases h2:k=j
    · rw[if_pos h2,h2,pG f _ _ (by omega),pG f _ _ (by omega)]
    · rw[if_neg h2];by_cases h3:k<j
      · rw[fG f _ _ _ (by omega),fG f _ _ _ h3]
      · by_cases h4:k<=i
        · rw[wY f _ _ _ (by omega) h4,wY f _ _ _ (by omega) h4]
        · rw[i8 f _ _ _ (by omega) (by omega),i8 f _ _ _ (by omega) (by omega)]
theorem QY {a i j:Nat} {f:Nat->α} (O:SOrd lt) (h:Srt lt a i f) (ha:a<=j) (hj:j<=i) (h1:j<i->lt (f i) (f j)) (h2:a<j->¬lt (f i) (f (j-1))):Srt lt a (i+1) (rot f j i (i+1)):=by
  intro x y hx hxy hy;by_cases c1:x<j
  · rw[fG f _ _ _ c1];have k1:=h.le O hx (show x<=j-1 by omega) (by omega);by_cases c2:y<j
    · rw[fG f _ _ _ c2];exact h x y hx hxy (by omega)
    · by_cases c3:y=j
      · rw[c3,pG f _ _ hj];exact O.tr _ _ _ k1 (h2 (by omega))
      · rw[wY f _ _ _ (by omega) (by omega)];exact h.le O hx (by omega) (by omega)
  · by_cases c2:x=j
    · rw[c2,pG f _ _ hj,wY f _ _ _ (by omega) (by omega)];exact O.tr _ _ _ (O.asy _ _ (h1 (by omega))) (h.le O ha (by omega) (by omega))
    · rw[wY f _ _ x (by omega) (by omega),wY f _ _ y (by omega) (by omega)];exact h.le O (by omega) (by omega) (by omega)
theorem KR (f:Nat->α) (a i:Nat) (h:a<i):rot f a (a+1) i (i-1)=f a:=by
  unfold rot;rw[if_neg (by omega),if_pos (by omega)];congr 1;omega
theorem X6 (f:Nat->α) (a i k:Nat) (h:a<=k) (hk:k+1<i):rot f a (a+1) i k=f (k+1):=by
  unfold rot;rw[if_pos (by omega)];congr 1;omega
theorem mI (f:Nat->α) (a i k:Nat) (hi:a<i) (h:k<a\/i<=k):rot f a (a+1) i k=f k:=by
  unfold rot;rw[if_neg (by omega),if_neg (by omega)]
theorem up_step (f:Nat->α) (a k:Nat) (h:a<=k):swp (rot f a (a+1) (k+1)) k (k+1)=rot f a (a+1) (k+2):=by
  funext x;unfold swp
  by_cases h1:x=k
  · rw[if_pos h1,h1,mI f _ _ _ (by omega) (by omega),X6 f _ _ _ h (by omega)]
  · rw[if_neg h1];by_cases h2:x=k+1
    · rw[if_pos h2,h2];have e:=KR f a (k+1) (by omega);have e2:=KR f a (k+2) (by omega);rw[show k+1-1=k from rfl]at e;rw[show k+2-1=k+1 from rfl]at e2;rw[e,e2]
    · rw[if_neg h2];by_cases h3:a<=x/\x<k
      · rw[X6 f _ _ _ h3.1 (by omega),X6 f _ _ _ h3.1 (by omega)]
      · rw[mI f _ _ _ (by omega) (by omega),mI f _ _ _ (by omega) (by omega)]
theorem up_srt {a i b:Nat} {f:Nat->α} (O:SOrd lt) (h:Srt lt (a+1) b f) (hi:a+1<=i) (hb:i<=b) (h1:a+1<i->lt (f (i-1)) (f a)) (h2:i<b->¬lt (f i) (f a)):Srt lt a b (rot f a (a+1) i):=by
  intro x y hx hxy hy;by_cases c1:x+1<i
  · rw[X6 f _ _ _ hx c1];have k1:=h.le O (show a+1<=x+1 by omega) (show x+1<=i-1 by omega) (by omega);by_cases c2:y+1<i
    · rw[X6 f _ _ _ (by omega) c2];exact h.le O (by omega) (by omega) (by omega)
    · by_cases c3:y=i-1
      · rw[c3,KR f _ _ (by omega)];exact O.tr _ _ _ k1 (O.asy _ _ (h1 (by omega)))
      · rw[mI f _ _ _ (by omega) (by omega)];exact h.le O (by omega) (by omega) (by omega)
  · by_cases c2:x=i-1
    · rw[c2,KR f _ _ (by omega),mI f _ _ _ (by omega) (by omega)];exact O.tr _ _ _ (h2 (by omega)) (h.le O (by omega) (by omega) (by omega))
    · rw[mI f _ _ x (by omega) (by omega),mI f _ _ y (by omega) (by omega)];exact h.le O (by omega) (by omega) (by omega)
theorem Sw.rot {lo hi a m b:Nat} (f:Nat->α) (h1:lo<=a) (h2:b<=hi) (ha:a<=m) (hm:m<=b):Sw lo hi f (rot f a m b):=by
  by_cases e1:a=m
  · subst e1;rw[mP];exact Sw.refl _ _ _
  by_cases e2:m=b
  · subst e2;rw[mN];exact Sw.refl _ _ _
  have main:∀n f m i j,i+j=n->0<i->0<j->i<=m->lo<=m-i->m+j<=hi->Sw lo hi f (Go.Proofs.YtgedpfebepdcmaaGreatDoor.Stb.rot (α:=α) f (m-i) m (m+j)):=by
    intro n;induction n using Nat.strongRecOn with
    | _ n ih =>
      intro f m i j hn hi hj hm hl hh;rcases Nat.lt_trichotomy i j with h | h | h
      · rw[<-aU f m i j hm hi h];exact(Sw.swr f (by omega) (by omega) (by omega)).trans (ih (i+(j-i)) (by omega) _ m i (j-i) rfl hi (by omega) hm hl (by omega))
      · subst h;rw[<-XQ f m i hm];exact Sw.swr f (by omega) (by omega) (by omega)
      · rw[<-nL f m i j hm hj h];exact(Sw.swr f (by omega) (by omega) (by omega)).trans (ih (i-j+j) (by omega) _ m (i-j) j rfl (by omega) hj (by omega) (by omega) hh)
  have h:=main _ f m (m-a) (b-m) rfl (by omega) (by omega) (by omega) (by omega) (by omega);rw[show m-(m-a)=a by omega,show m+(b-m)=b by omega]at h;exact h
end
end Stb
namespace LC
open Go.RowKit Go.Proofs.YtgedpfebepdcmaaGreatDoor
def z3 (cv:Op->Bool) (o:Oper):Bool :=
  match o.op with
  | .call c=>(match c.callee with | .builtin .len=>false | .builtin .cap=>false | _=>true)
  | .alloc _ | .box _ _ | .buildSlice _ _ _ | .store _ _ _ | .insert _ _ _ _ | .mapUpdate _ _ _ _ | .mapEntry _ _ _ | .entryStore _ _ _ _ | .makeMap _ _ | .makeChan _ _ | .makeSlice _ _ _ | .range _ _ | .next _ _=>true
  | op=>cv op
def jJ (cv:Op->Bool) (ops:Array Oper) (i:Nat):Bool:=((ops[i]?).map (z3 cv)).getD false
def ZW (md:Region.Mode) (ops:Array Oper) (j p:Nat):Bool :=
  match ops[j]? with
  | some oj=>oj.after.any fun e=>Region.binds md e&&e.on==p
  | none=>false
def chainB (md:Region.Mode) (cv:Op->Bool) (ops:Array Oper):Bool :=
  (List.range ops.size).all fun j=>!jJ cv ops j||(match (List.range j).reverse.find? (jJ cv ops)with | some p=>ZW md ops j p | none=>true)
section
variable {P:Program} {ops:Array Oper} {md:Region.Mode} {S:World->Prop} {cv:Op->Bool} {fb:Bool}
def jD (w:World) (v:Value):Result Next->Prop
  | .ok (.value u) w'=>w'=w/\u=v
  | .ok .skip w'=>w'=w/\v=undef
  | _=>False
def xG (P:Program) (S:World->Prop) (K:Value->World->Prop):Result Next->Prop
  | .ok (.value u) w'=>S w'/\K u w'
  | .ok .skip w'=>S w'/\K undef w'
  | .ok (.enter f args) w'=>Calls P f args w' (fun e w''=>∃v,e = .returned v/\S w''/\K v w'')
  | _=>False
theorem jY {K K':Value->World->Prop} {r:Result Next} (hk:∀v w,S w->K v w->K' v w) (h:xG P S K r):xG P S K' r:=by
  cases r with
  | ok n w' =>
    cases n <;> simp only[xG]at h |-
    case value u=>exact⟨h.1,hk _ _ h.1 h.2⟩
    case skip=>exact⟨h.1,hk _ _ h.1 h.2⟩
    case enter f args=>exact h.mono fun e w'' ⟨v,he,hs,h2⟩=>⟨v,he,hs,hk _ _ hs h2⟩
  | halt x w'=>exact h.elim
theorem jP {S':World->Prop} {K K':Value->World->Prop} {r:Result Next} (hs:∀w,S w->S' w) (hk:∀v w,S w->K v w->K' v w) (h:xG P S K r):xG P S' K' r:=by
  cases r with
  | ok n w' =>
    cases n <;> simp only[xG]at h |-
    case value u=>exact⟨hs _ h.1,hk _ _ h.1 h.2⟩
    case skip=>exact⟨hs _ h.1,hk _ _ h.1 h.2⟩
    case enter f args=>exact h.mono fun e w'' ⟨v,he,hs',h2⟩=>⟨v,he,hs _ hs',hk _ _ hs' h2⟩
  | halt x w'=>exact h.elim
def cls (ops:Array Oper) (S:World->Prop) (fb:Bool) (i:Nat):World->Prop:=fun w=>S w\/(fb=true/\i+1=ops.size)
def YR (md:Region.Mode) (ops:Array Oper):Bool:=decide (0<ops.size)&&Region.sinkB md ops (ops.size-1)
def lxOp (P:Program) (ops:Array Oper) (S:World->Prop) (cv:Op->Bool) (fb:Bool) (i:Nat) (K:Act->World->Prop) (a:Act) (w:World):Prop :=
  match ops[i]? with
  | none=>K a w
  | some o =>
    if Region.wanted o (yielded ops a.tmps)then
      (if z3 cv o then xG P (cls ops S fb i) (fun v w'=>K (a.put o.dst v) w') ((execOp a.eval o).run P w)
       else ∃v,(∀w',S w'->jD w' v ((execOp a.eval o).run P w'))/\K (a.put o.dst v) w)
    else K (a.put o.dst undef) w
theorem r8 {i:Nat} {a:Act} {w:World} {K K':Act->World->Prop} (hS:S w) (h:∀a w,cls ops S fb i w->K a w->K' a w) (hh:lxOp P ops S cv fb i K a w):lxOp P ops S cv fb i K' a w:=by
  have hSi:cls ops S fb i w:=.inl hS;unfold lxOp at *;split
  · exact h _ _ hSi (by simpa[*]using hh)
  · rename_i o ho
    simp only[ho]at hh;split
    · rename_i hw
      rw[if_pos hw]at hh;split
      · rename_i hc;rw[if_pos hc]at hh;exact jY (fun v w hs hk=>h _ _ hs hk) hh
      · rename_i hc;rw[if_neg hc]at hh;obtain⟨v,h1,h2⟩:=hh;exact⟨v,h1,h _ _ hSi h2⟩
    · rename_i hw;rw[if_neg hw]at hh;exact h _ _ hSi hh
def kR (P:Program) (md:Region.Mode) (ops:Array Oper) (S:World->Prop) (cv:Op->Bool) (fb:Bool) (Q:Act->World->Prop):Nat->Array Bool->Act->World->Prop
  | 0,listed,a,w=>Region.ready md ops listed = []/\Q a w
  | fuel+1,listed,a,w =>
    (Region.ready md ops listed = []->Q a w) /\
    ∀i∈Region.ready md ops listed,lxOp P ops S cv fb i (kR P md ops S cv fb Q fuel (listed.setIfInBounds i true)) a w
theorem wO {Q':Exit->Act->World->Prop} {i:Nat} {a:Act} {w:World} {K K':Act->World->Prop} (hS:S w) (h:∀a w,cls ops S fb i w->K a w->K' a w) (hh:lxOp P ops S cv fb i K a w):wpOp P ops Q' i K' a w:=by
  have hSi:cls ops S fb i w:=.inl hS;unfold lxOp at hh;unfold wpOp;split
  · rename_i ho;simp only[ho]at hh;exact h _ _ hSi hh
  · rename_i o ho
    simp only[ho]at hh;split
    · rename_i hw
      rw[if_pos hw]at hh;refine .inl ?_;unfold Oper.wp;split at hh
      · generalize (execOp a.eval o).run P w=r at *;cases r with
        | ok n w' =>
          cases n <;> simp only[xG]at hh <;> simp only[Oper.upon]
          case value u=>exact h _ _ hh.1 hh.2
          case skip=>exact h _ _ hh.1 hh.2
          case enter f args=>exact hh.mono fun e w'' ⟨v,he,hs,hk⟩=>by subst he;exact h _ _ hs hk
        | halt x w'=>exact hh.elim
      · obtain⟨v,h1,h2⟩:=hh;have h3:=h1 w hS;generalize (execOp a.eval o).run P w=r at *;cases r with
        | ok n w' =>
          cases n <;> simp only[jD]at h3 <;> simp only[Oper.upon]
          case value u=>obtain⟨e1,e2⟩:=h3;rw[e1,e2];exact h _ _ hSi h2
          case skip=>obtain⟨e1,e2⟩:=h3;rw[e1,<-e2];exact h _ _ hSi h2
        | halt x w'=>exact h3.elim
    · rename_i hw;rw[if_neg hw]at hh;exact h _ _ hSi hh
structure qY (md:Region.Mode) (ops:Array Oper) (fb:Bool) (listed:Array Bool):Prop where
  inv:fb=true->YR md ops=true/\(HeadInv md ops (ops.size-1) listed\/Region.ready md ops listed = [])
theorem qY.end_ {listed:Array Bool} (h:qY md ops fb listed) (hfb:fb=true) {i:Nat} (hi:i∈Region.ready md ops listed) (he:i+1=ops.size):∀j∈Region.ready md ops listed,j=i:=by
  obtain⟨hB,h1⟩:=h.inv hfb;rcases h1 with h1 | h1
  · intro j hj;simp only[YR,Bool.and_eq_true,decide_eq_true_eq]at hB;obtain⟨hjun,oj,hoj,_⟩:=mem_ready.1 hj;have hjs:j<ops.size:=(Array.getElem?_eq_some_iff.1 hoj).1;rcases Nat.lt_or_ge j i with hlt | hge
    · exfalso
      have hch:Region.chainB md ops (ops.size-1)=true:=by
        unfold Region.chainB;rw[List.all_eq_true];intro t ht;have:=List.mem_range.1 ht
        simp;left;omega
      exact tail_waits hB.2 hch (by omega) h1 (ops.size-1-j) j rfl (by omega) hjun i (by omega) hi
    · omega
  · rw[h1]at hi;cases hi
theorem qY.set {listed:Array Bool} (h:qY md ops fb listed) {i:Nat} (hi:i∈Region.ready md ops listed):qY md ops fb (listed.setIfInBounds i true):=by
  refine⟨fun hfb=>?_⟩;obtain⟨hB,h1⟩:=h.inv hfb;refine⟨hB,?_⟩;rcases h1 with h1 | h1
  · by_cases he:i+1=ops.size
    · right
      have hall:=h.end_ hfb hi he;apply List.eq_nil_iff_forall_not_mem.2;intro j hj;obtain⟨hjun,oj,hoj,hallj⟩:=mem_ready.1 hj;have hjs:j<ops.size:=(Array.getElem?_eq_some_iff.1 hoj).1;have hji:j≠i:=by
        rintro rfl;have hsz:j<listed.size:=by rw[h1.size];exact hjs
        simp[hsz]at hjun
      simp only[YR,Bool.and_eq_true,decide_eq_true_eq]at hB;have hch:Region.chainB md ops (ops.size-1)=true:=by
        unfold Region.chainB;rw[List.all_eq_true];intro t ht;have:=List.mem_range.1 ht
        simp;left;omega
      rw[getD_set_ne true (Ne.symm hji)]at hjun;exact tail_waits hB.2 hch (by omega) h1 (ops.size-1-j) j rfl (by omega) hjun i (by omega) hi
    · left
      obtain⟨_,oi,hoi,_⟩:=mem_ready.1 hi;have his:i<ops.size:=(Array.getElem?_eq_some_iff.1 hoi).1;exact h1.set hi (by omega)
  · rw[h1]at hi;cases hi
theorem qY.cls {listed:Array Bool} {w:World} (h:qY md ops fb listed) {i j:Nat} (hi:i∈Region.ready md ops listed) (hj:j∈Region.ready md ops listed) (hji:j≠i) (hc:cls ops S fb j w):S w:=by
  rcases hc with hc | ⟨hfb,he⟩
  · exact hc
  · exact absurd (h.end_ hfb hj he i hi).symm hji
theorem kF {Q:Act->World->Prop} {Q':Exit->Act->World->Prop} (hQ:∀a w,(S w\/fb=true)->Q a w->Q' .normal a w):∀(fuel:Nat) (listed:Array Bool) (a:Act) (w:World),qY md ops fb listed->(S w\/(fb=true/\Region.ready md ops listed = [])) ->
    kR P md ops S cv fb Q fuel listed a w->wpAny P md ops Q' fuel listed a w
  | 0,_,_,_,_,hS,h=>⟨h.1,hQ _ _ (hS.imp id (·.1)) h.2⟩
  | fuel+1,listed,_,_,hI,hS,h=>⟨fun h0=>hQ _ _ (hS.imp id (·.1)) (h.1 h0),fun i hi=>by
      rcases hS with hS | ⟨_,h0⟩
      · refine wO hS (fun a' w' hS'=>kF hQ fuel _ a' w' (hI.set hi) ?_) (h.2 i hi);rcases hS' with hS' | ⟨hfb,he⟩
        · exact .inl hS'
        · right
          refine⟨hfb,?_⟩;rcases ((hI.set hi).inv hfb).2 with h1 | h1
          · exfalso
            have:=h1.tail i (by omega) (by omega);have hsz:i<(listed.setIfInBounds i true).size:=by rw[h1.size];omega
            have hsz':i<listed.size:=by simpa using hsz
            simp[hsz']at this
          · exact h1
      · rw[h0]at hi;cases hi⟩
def q8 (P:Program) (ops:Array Oper) (S:World->Prop) (cv:Op->Bool) (o:Oper) (v:Value) (a:Act):Prop :=
  (Region.wanted o (yielded ops a.tmps)=true/\z3 cv o=false/\∀w,S w->jD w v ((execOp a.eval o).run P w)) \/
  (Region.wanted o (yielded ops a.tmps)=false/\v=undef)
theorem q8.lxOp {i:Nat} {o:Oper} {v:Value} {a:Act} {w:World} (hi:ops[i]? = some o) (hy:q8 P ops S cv o v a) {K:Act->World->Prop} (h:K (a.put o.dst v) w):lxOp P ops S cv fb i K a w:=by
  unfold Proofs.YtgedpfebepdcmaaGreatDoor.LC.lxOp;simp only[hi];rcases hy with⟨hw,hc,hv⟩ | ⟨hw,rfl⟩
  · rw[if_pos hw,hc];exact⟨v,hv,h⟩
  · rw[if_neg (by rw[hw];simp)];exact h
theorem q8.of_same {o:Oper} {v:Value} {a a':Act} (hy:q8 P ops S cv o v a) (he:execOp a'.eval o=execOp a.eval o)
    (hw:Region.wanted o (yielded ops a'.tmps)=Region.wanted o (yielded ops a.tmps)):q8 P ops S cv o v a':=by
  unfold q8 at *;rw[he,hw];exact hy
theorem eL {j:Nat} {oi oj:Oper} {v:Value} (hj:ops[j]? = some oj) (hap:oi.apart ops oj=true)
    (hsi:∀cs b,oi.op≠.select cs b) (hsj:∀cs b,oj.op≠.select cs b) {K:Act->World->Prop} {a:Act} {w:World}
    (hy:q8 P ops S cv oi v a) (h:lxOp P ops S cv fb j K (a.put oi.dst v) w) :
    lxOp P ops S cv fb j (fun a' w'=>q8 P ops S cv oi v a'/\K (a'.put oi.dst v) w') a w:=by
  obtain⟨h1,h2,h3⟩:=Oper.apart_spec hap;have keep:∀(a:Act),q8 P ops S cv oi v a->∀u,q8 P ops S cv oi v (a.put oj.dst u):=fun a hy u =>
    hy.of_same (execOp_put oi hsi a oj.dst u h3) (wanted_put oi a oj.dst u h3)
  unfold lxOp at *;simp only[hj]at *;rw[wanted_put oj a oi.dst v h1,execOp_put oj hsj a oi.dst v h1]at h;split
  · rename_i hw
    rw[if_pos hw]at h;split
    · rename_i hc
      rw[if_pos hc]at h;exact jY (fun u w' _ hk=>⟨keep a hy u,by rw[<-Act.put_comm a v u h2];exact hk⟩) h
    · rename_i hc
      rw[if_neg hc]at h;obtain⟨u,hu,hk⟩:=h;exact⟨u,hu,keep a hy u,by rw[<-Act.put_comm a v u h2];exact hk⟩
  · rename_i hw
    rw[if_neg hw]at h;exact⟨keep a hy _,by rw[<-Act.put_comm a v undef h2];exact h⟩
theorem vM {Q:Act->World->Prop} {i:Nat} {oi:Oper} {v:Value} (hi:ops[i]? = some oi) (hsel:∀(j:Nat) (o:Oper) cs b,ops[j]? = some o->o.op≠.select cs b) :
    ∀(fuel:Nat) (listed:Array Bool) (a:Act) (w:World),qY md ops fb listed->S w ->
      (∀j oj,ops[j]? = some oj->j≠i->listed.getD j true=false->(∀e∈oj.after,Region.binds md e=true->e.on≠i)->oi.apart ops oj=true) ->
      i∈Region.ready md ops listed->q8 P ops S cv oi v a ->
      kR P md ops S cv fb Q fuel (listed.setIfInBounds i true) (a.put oi.dst v) w->kR P md ops S cv fb Q (fuel+1) listed a w:=by
  intro fuel;induction fuel with
  | zero =>
    intro listed a w _ _ _ hr hy H;refine⟨fun h=>(by rw[h]at hr;cases hr),fun j hj=>?_⟩;by_cases hji:j=i
    · subst hji;exact hy.lxOp hi H
    · have:=ready_mono hj hji;rw[H.1]at this;cases this
  | succ fuel ih =>
    intro listed a w hI hS hfree hr hy H;refine⟨fun h=>(by rw[h]at hr;cases hr),fun j hj=>?_⟩;by_cases hji:j=i
    · subst hji;exact hy.lxOp hi H
    · have h1:=H.2 j (ready_mono hj hji);obtain⟨hjun,oj,hoj,hall⟩:=mem_ready.1 hj;have hnot:∀e∈oj.after,Region.binds md e=true->e.on≠i:=fun e he hb heq=>by
        have h1:=hall e he hb;have h0:=(mem_ready.1 hr).1;rw[heq]at h1;rcases Nat.lt_or_ge i listed.size with h' | h'
        · simp[h']at h0 h1;rw[h0]at h1;cases h1
        · simp[Array.getElem?_eq_none h']at h1
      have h2:=eL hoj (hfree j oj hoj hji hjun hnot) (fun cs b=>hsel i oi cs b hi) (fun cs b=>hsel j oj cs b hoj) hy h1;have hfree':∀k ok,ops[k]? = some ok->k≠i->(listed.setIfInBounds j true).getD k true=false ->
          (∀e∈ok.after,Region.binds md e=true->e.on≠i)->oi.apart ops ok=true:=fun k ok hk hki hun hno=>by
        refine hfree k ok hk hki ?_ hno;by_cases hjk:j=k
        · subst hjk;exact hjun
        · rw[getD_set_ne true hjk]at hun;exact hun
      refine r8 hS (fun a' w' hS' h3=>ih (listed.setIfInBounds j true) a' w' (hI.set hj) (hI.cls hr hj hji hS') hfree' (ready_mono hr (Ne.symm hji)) h3.1 ?_) h2;rw[Array.setIfInBounds_comm _ _ hji];exact h3.2
end
section
variable (P:Program) (S:World->Prop) (w w':World) (v u:Value) (K:Value->World->Prop) (f:FuncId) (args:Array Value)
@[go_sem] theorem eM:LC.jD w v (.ok (.value u) w')=(w'=w/\u=v):=rfl
@[go_sem] theorem aD:LC.jD w v (.ok .skip w')=(w'=w/\v=undef):=rfl
@[go_sem] theorem iH:LC.xG P S K (.ok (.value u) w')=(S w'/\K u w'):=rfl
@[go_sem] theorem aF:LC.xG P S K (.ok .skip w')=(S w'/\K undef w'):=rfl
@[go_sem] theorem iI:LC.xG P S K (.ok (.enter f args) w')=Calls P f args w' (fun e w''=>∃v,e = .returned v/\S w''/\K v w''):=rfl
end
def lX {α:Type}:List α->Nat->Option α
  | [],_=>none
  | x :: _,0=>some x
  | _ :: l,i+1=>lX l i
theorem nQ {α:Type}:∀(l:List α) (i:Nat),lX l i=l[i]?
  | [],_=>rfl
  | _ :: _,0=>rfl
  | _ :: l,i+1=>by simpa[lX]using nQ l i
theorem fQ {ops:Array Oper} {i:Nat} {o:Oper} (h:lX ops.toList i=some o):ops[i]? = some o:=by
  rw[nQ]at h;simpa using h
inductive yR where
  | done:yR
  | loose (i:Nat) (n:yR):yR
  | one (i:Nat) (n:yR):yR
  | two (i:Nat) (n:yR) (j:Nat) (m:yR):yR
  | three (i:Nat) (n:yR) (j:Nat) (m:yR) (k:Nat) (l:yR):yR
def yR.depth:yR->Nat
  | .done=>0
  | .loose _ n=>n.depth+1
  | .one _ n=>n.depth+1
  | .two _ n _ m=>max n.depth m.depth+1
  | .three _ n _ m _ l=>max (max n.depth m.depth) l.depth+1
def yR.ok (md:Region.Mode) (ops:Array Oper):yR->Array Bool->Bool
  | .done,listed=>(Region.ready md ops listed).isEmpty
  | .loose i n,listed=>(Region.ready md ops listed).contains i&&Region.free md ops listed i&&n.ok md ops (listed.setIfInBounds i true)
  | .one i n,listed=>(Region.ready md ops listed == [i])&&n.ok md ops (listed.setIfInBounds i true)
  | .two i n j m,listed=>(Region.ready md ops listed == [i,j])&&n.ok md ops (listed.setIfInBounds i true)&&m.ok md ops (listed.setIfInBounds j true)
  | .three i n j m k l,listed=>(Region.ready md ops listed == [i,j,k])&&n.ok md ops (listed.setIfInBounds i true)&&m.ok md ops (listed.setIfInBounds j true)&&l.ok md ops (listed.setIfInBounds k true)
def vY (md:Region.Mode) (cv:Op->Bool) (ops:Array Oper) (skip:List Nat):Nat->Array Bool->yR
  | 0,_=>.done
  | f+1,listed =>
    match (Region.ready md ops listed).find? (fun i=>(!jJ cv ops i||skip.contains i)&&Region.free md ops listed i)with
    | some i=>.loose i (vY md cv ops skip f (listed.setIfInBounds i true))
    | none =>
      match Region.ready md ops listed with
      | [i]=>.one i (vY md cv ops skip f (listed.setIfInBounds i true))
      | [i,j]=>.two i (vY md cv ops skip f (listed.setIfInBounds i true)) j (vY md cv ops skip f (listed.setIfInBounds j true))
      | [i,j,k]=>.three i (vY md cv ops skip f (listed.setIfInBounds i true)) j (vY md cv ops skip f (listed.setIfInBounds j true)) k (vY md cv ops skip f (listed.setIfInBounds k true))
      | _=>.done
section
variable {P:Program} {ops:Array Oper} {md:Region.Mode} {S:World->Prop} {cv:Op->Bool} {fb:Bool}
def kW (P:Program) (ops:Array Oper) (S:World->Prop) (cv:Op->Bool) (fb:Bool) (i:Nat) (K:Act->World->Prop) (a:Act) (w:World):Prop :=
  match ops[i]? with
  | none=>False
  | some o=>if Region.wanted o (yielded ops a.tmps)then z3 cv o=true/\xG P (cls ops S fb i) (fun v w'=>K (a.put o.dst v) w') ((execOp a.eval o).run P w)else K (a.put o.dst undef) w
def bL (P:Program) (ops:Array Oper) (S:World->Prop) (cv:Op->Bool) (fb:Bool) (Q:Act->World->Prop):yR->Act->World->Prop
  | .done,a,w=>Q a w
  | .loose i n,a,w =>
    match ops[i]? with
    | none=>False
    | some o=>if Region.wanted o (yielded ops a.tmps)then z3 cv o=false/\∃v,(∀w',S w'->jD w' v ((execOp a.eval o).run P w'))/\bL P ops S cv fb Q n (a.put o.dst v) w else bL P ops S cv fb Q n (a.put o.dst undef) w
  | .one i n,a,w=>kW P ops S cv fb i (bL P ops S cv fb Q n) a w
  | .two i n j m,a,w=>kW P ops S cv fb i (bL P ops S cv fb Q n) a w/\kW P ops S cv fb j (bL P ops S cv fb Q m) a w
  | .three i n j m k l,a,w=>kW P ops S cv fb i (bL P ops S cv fb Q n) a w/\kW P ops S cv fb j (bL P ops S cv fb Q m) a w/\kW P ops S cv fb k (bL P ops S cv fb Q l) a w
theorem vQ {i:Nat} {K K':Act->World->Prop} {a:Act} {w:World} (hS:S w) (hk:∀a w,cls ops S fb i w->K a w->K' a w) (h:kW P ops S cv fb i K a w):lxOp P ops S cv fb i K' a w:=by
  unfold LC.kW at h;unfold LC.lxOp;cases ho:ops[i]? with
  | none=>rw[ho]at h;exact h.elim
  | some o =>
    simp only[ho]at h |-;split at h
    · rename_i hw
      rw[if_pos hw,if_pos h.1];exact jY (fun v w' hs hk'=>hk _ _ hs hk') h.2
    · rename_i hw
      rw[if_neg hw];exact hk _ _ (.inl hS) h
theorem dA {Q:Act->World->Prop} (hs:Region.noSelect ops=true):∀(T:yR) (fuel:Nat) (listed:Array Bool) (a:Act) (w:World),qY md ops fb listed->(S w\/(fb=true/\Region.ready md ops listed = [])) ->
    T.ok md ops listed=true->T.depth<=fuel->bL P ops S cv fb Q T a w->kR P md ops S cv fb Q fuel listed a w:=by
  have after:∀ {i:Nat} {listed:Array Bool} {w':World},qY md ops fb listed->i∈Region.ready md ops listed->cls ops S fb i w'->S w'\/(fb=true/\Region.ready md ops (listed.setIfInBounds i true) = []):=by
    intro i listed w' hI hi hc;rcases hc with hc | ⟨hfb,he⟩
    · exact .inl hc
    · right
      refine⟨hfb,?_⟩;rcases ((hI.set hi).inv hfb).2 with h1 | h1
      · exfalso
        have:=h1.tail i (by omega) (by omega);have hsz:i<(listed.setIfInBounds i true).size:=by rw[h1.size];omega
        have hsz':i<listed.size:=by simpa using hsz
        simp[hsz']at this
      · exact h1
  have nonempty:∀ {i:Nat} {listed:Array Bool} {w:World},i∈Region.ready md ops listed->(S w\/(fb=true/\Region.ready md ops listed = []))->S w:=by
    intro i listed w hi h;rcases h with h | ⟨_,h⟩
    · exact h
    · rw[h]at hi;cases hi
  intro T;induction T with
  | done =>
    intro fuel listed a w _ _ hok _ h;have h0:Region.ready md ops listed = []:=by simpa[yR.ok]using hok
    cases fuel with
    | zero=>exact⟨h0,h⟩
    | succ f=>exact⟨fun _=>h,fun i hi=>by rw[h0]at hi;cases hi⟩
  | loose i n ih =>
    intro fuel listed a w hI hSw hok hd h;simp only[yR.ok,Bool.and_eq_true]at hok;obtain⟨⟨hr,hf⟩,hn⟩:=hok;have hr':i∈Region.ready md ops listed:=by simpa using hr
    have hS:=nonempty hr' hSw;cases fuel with
    | zero=>simp[yR.depth]at hd
    | succ f =>
      have hd':n.depth<=f:=by simp[yR.depth]at hd;omega
      unfold bL at h;split at h
      · exact h.elim
      · rename_i o ho
        split at h
        · rename_i hw
          obtain⟨hc,v,hv,hk⟩:=h;exact vM ho (Region.noSelect_spec hs) f listed a w hI hS (Region.free_spec ho hf) hr' (.inl ⟨hw,hc,hv⟩) (ih f _ _ w (hI.set hr') (.inl hS) hn hd' hk)
        · rename_i hw
          exact vM ho (Region.noSelect_spec hs) f listed a w hI hS (Region.free_spec ho hf) hr' (.inr ⟨by simpa using hw,rfl⟩) (ih f _ _ w (hI.set hr') (.inl hS) hn hd' h)
  | one i n ih =>
    intro fuel listed a w hI hSw hok hd h;simp only[yR.ok,Bool.and_eq_true,beq_iff_eq]at hok;obtain⟨hr,hn⟩:=hok;have hr':i∈Region.ready md ops listed:=by rw[hr];simp
    have hS:=nonempty hr' hSw;cases fuel with
    | zero=>simp[yR.depth]at hd
    | succ f =>
      have hd':n.depth<=f:=by simp[yR.depth]at hd;omega
      refine⟨fun h0=>(by rw[hr]at h0;cases h0),fun x hx=>?_⟩;have hx':=hx;rw[hr]at hx';obtain rfl:x=i:=by simpa using hx'
      exact vQ hS (fun a' w' hc hk=>ih f _ a' w' (hI.set hx) (after hI hx hc) hn hd' hk) h
  | two i n j m ih1 ih2 =>
    intro fuel listed a w hI hSw hok hd h;simp only[yR.ok,Bool.and_eq_true,beq_iff_eq]at hok;obtain⟨⟨hr,hn⟩,hm⟩:=hok;have hS:=nonempty (i:=i) (by rw[hr];simp) hSw;cases fuel with
    | zero=>simp[yR.depth]at hd
    | succ f =>
      have hd1:n.depth<=f:=by simp[yR.depth]at hd;omega
      have hd2:m.depth<=f:=by simp[yR.depth]at hd;omega
      refine⟨fun h0=>(by rw[hr]at h0;cases h0),fun x hx=>?_⟩;have hx':=hx;rw[hr]at hx';rcases List.mem_cons.1 hx' with rfl | hx'
      · exact vQ hS (fun a' w' hc hk=>ih1 f _ a' w' (hI.set hx) (after hI hx hc) hn hd1 hk) h.1
      · obtain rfl:x=j:=by simpa using hx'
        exact vQ hS (fun a' w' hc hk=>ih2 f _ a' w' (hI.set hx) (after hI hx hc) hm hd2 hk) h.2
  | three i n j m k l ih1 ih2 ih3 =>
    intro fuel listed a w hI hSw hok hd h;simp only[yR.ok,Bool.and_eq_true,beq_iff_eq]at hok;obtain⟨⟨⟨hr,hn⟩,hm⟩,hl⟩:=hok;have hS:=nonempty (i:=i) (by rw[hr];simp) hSw;cases fuel with
    | zero=>simp[yR.depth]at hd
    | succ f =>
      have hd1:n.depth<=f:=by simp[yR.depth]at hd;omega
      have hd2:m.depth<=f:=by simp[yR.depth]at hd;omega
      have hd3:l.depth<=f:=by simp[yR.depth]at hd;omega
      refine⟨fun h0=>(by rw[hr]at h0;cases h0),fun x hx=>?_⟩;have hx':=hx;rw[hr]at hx';rcases List.mem_cons.1 hx' with rfl | hx'
      · exact vQ hS (fun a' w' hc hk=>ih1 f _ a' w' (hI.set hx) (after hI hx hc) hn hd1 hk) h.1
      · rcases List.mem_cons.1 hx' with rfl | hx'
        · exact vQ hS (fun a' w' hc hk=>ih2 f _ a' w' (hI.set hx) (after hI hx hc) hm hd2 hk) h.2.1
        · obtain rfl:x=k:=by simpa using hx'
          exact vQ hS (fun a' w' hc hk=>ih3 f _ a' w' (hI.set hx) (after hI hx hc) hl hd3 hk) h.2.2
structure fY (P:Program) (ops:Array Oper) (S:World->Prop) (cv:Op->Bool) (fb:Bool) (Q:Act->World->Prop) (T:yR) (a:Act) (w:World):Prop where
  out:bL P ops S cv fb Q T a w
theorem t8 {id:Nat} {Q:Exit->Act->World->Prop} {a:Act} {w:World} {ops:Array Oper} (T:yR) (S:World->Prop) (cv:Op->Bool) (hm:P.follows .mixedOrders=true) (hs:Region.noSelect ops=true) (hT:T.ok .any ops (Array.replicate ops.size false)=true) (hd:Nat.ble T.depth ops.size=true) (hS:S w.drew)
    (h:fY P ops S cv false (fun a' w'=>S w'->Q .normal a' w') T a w.drew):(Code.region id ops true).wp P Q a w:=by
  have hI:qY .any ops false (Array.replicate ops.size false):=⟨by simp⟩
  exact wp_region_any hm (kF (S:=S) (cv:=cv) (fb:=false) (Q:=fun a' w'=>S w'->Q .normal a' w') (fun _ w' hw' h=>h (hw'.elim (fun h=>h) (by simp))) _ _ _ _ hI (.inl hS)
    (dA (md:=.any) hs T _ _ a w.drew hI (.inl hS) hT (Nat.le_of_ble_eq_true hd) h.out))
variable {Q:Act->World->Prop} {a:Act} {w:World} {o:Oper} {i j k:Nat} {n m l:yR}
theorem aN (h:Q a w):fY P ops S cv fb Q .done a w:=⟨h⟩
theorem xW (ho':lX ops.toList i=some o) (hc:z3 cv o=false)
    (h:∀K:Act->Prop,(∀a,fY P ops S cv fb Q n a w->K a)->if Region.wanted o (yielded ops a.tmps)then(∃v,(∀x:Subtype S,jD x.1 v ((execOp a.eval o).run P x.1))/\K (a.put o.dst v))else K (a.put o.dst undef)):fY P ops S cv fb Q (.loose i n) a w:=by
  have ho:=fQ ho';have:=h _ (fun _ h=>h);refine⟨?_⟩;unfold bL;simp only[ho];split
  · rename_i hw
    rw[if_pos hw]at this;obtain⟨v,hv,hk⟩:=this;exact⟨hc,v,fun w' hs=>hv ⟨w',hs⟩,hk.out⟩
  · rename_i hw;rw[if_neg hw]at this;exact this.out
theorem qA (hS:S w) (ho':lX ops.toList i=some o) (hc:z3 cv o=true)
    (h:∀K:Act->World->Prop,(∀a w,fY P ops S cv fb Q n a w->K a w)->if Region.wanted o (yielded ops a.tmps)then xG P S (fun v w'=>K (a.put o.dst v) w') ((execOp a.eval o).run P w)else K (a.put o.dst undef) w):fY P ops S cv fb Q (.one i n) a w:=by
  have ho:=fQ ho';have:=h _ (fun _ _ h=>h);refine⟨?_⟩;unfold bL kW;simp only[ho];split
  · rename_i hw;rw[if_pos hw]at this;exact⟨hc,jP (fun _ h=>.inl h) (fun _ _ _ h=>h.out) this⟩
  · rename_i hw;rw[if_neg hw]at this;exact this.out
theorem gH (h1:fY P ops S cv fb Q (.one i n) a w) (h2:fY P ops S cv fb Q (.one j m) a w):fY P ops S cv fb Q (.two i n j m) a w:=⟨⟨h1.out,h2.out⟩⟩
end
def cvOf (n:TypeId) (op:Op):Bool:=match op with | .load t _=>t==n | _=>false
end LC
section
open Go.RowKit Stb
def nK (f:Nat->zG) (n:Nat):List (Array Value):=(List.range n).map fun k=>zL (f k)
theorem zx (f:Nat->zG) (n i:Nat) (x:zG):(nK f n).set i (zL x)=nK (fun k=>if k=i then x else f k) n:=by
  unfold nK;apply List.ext_getElem?;intro k;rw[List.getElem?_set];simp only[List.getElem?_map,List.length_map,List.length_range];by_cases hk:k<n
  · rw[List.getElem?_range hk];by_cases h:i=k
    · subst h;simp[hk]
    · rw[if_neg h];simp[Ne.symm h]
  · rw[List.getElem?_eq_none (by simpa using hk)];by_cases h:i=k
    · subst h;simp[hk]
    · rw[if_neg h];rfl
theorem dB (f:Nat->zG) (i j:Nat):(fun k=>if k=j then f i else(fun k=>if k=i then f j else f k) k)=swp f i j:=by
  funext k;unfold Stb.swp
  by_cases h1:k=i <;> by_cases h2:k=j <;> simp[h1,h2]
  all_goals (try subst h1);(try subst h2);simp_all
theorem rF:yY Tryz.prog 40 45 34 56 :=
  .of (z:=.agg (zL r7)) Tryz.underlying40 (by kernel_rfl) (by kernel_rfl) (by kernel_rfl) (fS _) (by omega)
abbrev jR (w:World) (B g n cap:Nat) (f:Nat->zG):Prop:=Own w B 45 34 (some ⟨g,0,none⟩) n cap (nK f n)
theorem jR.row {w:World} {B g n cap:Nat} {f:Nat->zG} (h:jR w B g n cap f) {i:Nat} (hi:i<n):z9 w g (i*34) 34=some (zL (f i)):=by
  obtain⟨q,o,e,hr⟩:=h.slr.at_ hi;injection e with e;injection e with e1 e2
  subst e1;subst e2;rw[Nat.zero_add]at hr;rw[hr];simp[nK]
theorem jR.store {w:World} {B g n cap:Nat} {f:Nat->zG} (h:jR w B g n cap f) {i:Nat} (hi:i<n) (x:zG) :
    ∃w',(stS 45 ⟨g,i*34,none⟩ (.agg (zL x))).run Tryz.prog w = .ok () w'/\jR w' B g n cap (fun k=>if k=i then x else f k)/\z4 [g] w w':=by
  obtain⟨w',h1,h2,h3⟩:=pU rF h hi (fS x) (mX x);exact⟨w',h1,by rw[zx]at h2;exact h2,h3⟩
theorem dO (w:World) (B g n cap:Nat) (f:Nat->zG) (a b m:Nat) (fv:Value) (hown:jR w B g n cap f) (hab:a+m<=b) (hb:b+m<=n) (hn:n<=1000000) :
    Calls Tryz.prog 192 #[.slice (some ⟨g,0,none⟩) n cap,.int .i64 a,.int .i64 b,.int .i64 m,fv] w fun e w'=>e = .returned (.tuple #[])/\jR w' B g n cap (swr f a b m)/\z4 [g] w w':=by
  go_enter Tryz.func192,Tryz.ntmps192
  (go_wp2_with fail);go_loopw [10] (fun iv wr=>∃i:Nat,i<=m/\iv = .int .i64 i/\jR wr B g n cap (swr f a b i)/\z4 [g] w wr) (fun iv _=>m-(intOf iv).toNat)
  case atStart=>exact⟨0,Nat.zero_le _,rfl,by rw[XD];exact hown,z4.refl _ _⟩
  case round =>
    obtain⟨i,hi,rfl,ho,hk⟩:=hrel;by_cases hlt:i<m
    · have ha1:((a:Int)+(i:Int))=((a+i:Nat):Int):=by omega
      have hb1:((b:Int)+(i:Int))=((b+i:Nat):Int):=by omega
      have hsw:=XE f a b i (by omega);have Hsw:=Lib.hid hsw;obtain⟨x,hx⟩:∃x,a+i=x:=⟨_,rfl⟩
      obtain⟨y,hy⟩:∃y,b+i=y:=⟨_,rfl⟩
      rw[hx]at ha1;rw[hy]at hb1;have hw1:IntKind.i64.wrap (x:Int)=(x:Int):=IntWalk.i64_in _ (by omega);have hw2:IntKind.i64.wrap (y:Int)=(y:Int):=IntWalk.i64_in _ (by omega);have hxn:x<n:=by omega
      have hyn:y<n:=by omega
      have Hx:=Lib.hid hx;have Hy:=Lib.hid hy;obtain⟨f',hf'⟩:∃f',swr f a b i=f':=⟨_,rfl⟩
      rw[hf']at ho;have Hf':=Lib.hid hf';clear hsw hx hy hf';go_upto_region 3 with fail
      have hod:jR wr.drew B g n cap f':=Own.below ho (Below.refl _ _).drew;refine LC.t8 (.loose 0 (.loose 1 (.loose 2 (.loose 3 (.loose 4 (.loose 5 (.loose 6 (.loose 7 (.loose 8 (.loose 9 (.loose 10 (.loose 11 (.loose 12 (.loose 14 (.loose 15 (.loose 16 (.loose 17 (.loose 18 (.two 13 (.one 19 (.loose 20 (.one 21 (.loose 22 (.one 23 .done))))) 19 (.one 13 (.loose 20 (.one 21 (.loose 22 (.one 23 .done)))))))))))))))))))))))) (Kp ([g]) wr) (LC.cvOf 45) (by kernel_rfl) (by kernel_rfl) (by kernel_rfl) (by kernel_rfl) (zW ([g]) wr) ?_;have hne:=xA ([g]) wr;have hS:=zW ([g]) wr;obtain⟨W,hW⟩:∃W,wr.drew=W:=⟨_,rfl⟩
      rw[hW]at hod hS |-;have hrx:=hod.row hxn;have hry:=hod.row hyn;clear hW;repeat(refine LC.xW rfl ?_ ?_;(focus(first | (simp only[LC.z3,LC.cvOf];done) | rfl));intro K hK;go_simp;refine hK _ ?_;clear hK K)
      refine LC.gH ?_ ?_
      · skip;refine LC.qA ?_ rfl ?_ ?_;(focus(exact hS));focus(first | (simp only[LC.z3,LC.cvOf];done) | rfl)
        intro K hK;go_simp;refine hK _ _ ?_;clear hK K;refine LC.qA ?_ rfl ?_ ?_;(focus(exact hS));focus(first | (simp only[LC.z3,LC.cvOf];done) | rfl)
        intro K hK;go_simp;refine hK _ _ ?_;clear hK K;repeat(refine LC.xW rfl ?_ ?_;(focus(first | (simp only[LC.z3,LC.cvOf];done) | rfl));intro K hK;go_simp;refine hK _ ?_;clear hK K)
        refine LC.qA ?_ rfl ?_ ?_;(focus(exact hS));focus(first | (simp only[LC.z3,LC.cvOf];done) | rfl)
        intro K hK;go_simp;obtain⟨w2,hst2,ho2,hk2⟩:=hod.store hxn (f' y);rw[hst2];go_simp;have hS2:Kp [g] wr w2:=z4.trans hS hk2 (by simp);refine⟨hS2,hK _ _ ?_⟩;clear hK K hS hk2 hst2;have hS:=hS2;clear hS2;repeat(refine LC.xW rfl ?_ ?_;(focus(first | (simp only[LC.z3,LC.cvOf];done) | rfl));intro K hK;go_simp;refine hK _ ?_;clear hK K)
        refine LC.qA ?_ rfl ?_ ?_;(focus(exact hS));focus(first | (simp only[LC.z3,LC.cvOf];done) | rfl)
        intro K hK;go_simp;obtain⟨w3,hst3,ho3,hk3⟩:=ho2.store hyn (f' x);rw[hst3];go_simp;have hS2:Kp [g] wr w3:=z4.trans hS hk3 (by simp);refine⟨hS2,hK _ _ ?_⟩;clear hK K hS hk3 hst3;have hS:=hS2;clear hS2;refine LC.aN ?_;intro hS;rw[dB f' x y]at ho3;have hkz:z4 [g] w w3:=z4.trans hk hS (by simp);clear hS hne hk ho2 hod ho hrx hry;(go_wp2_with fail);go_roundw
        case rel=>exact⟨i+1,by omega,by go_num,by rw[<-Hsw.out,Hf'.out,Hx.out,Hy.out];exact ho3,hkz⟩
        case measure=>simp[intOf];omega
      · skip;refine LC.qA ?_ rfl ?_ ?_;(focus(exact hS));focus(first | (simp only[LC.z3,LC.cvOf];done) | rfl)
        intro K hK;go_simp;refine hK _ _ ?_;clear hK K;refine LC.qA ?_ rfl ?_ ?_;(focus(exact hS));focus(first | (simp only[LC.z3,LC.cvOf];done) | rfl)
        intro K hK;go_simp;refine hK _ _ ?_;clear hK K;repeat(refine LC.xW rfl ?_ ?_;(focus(first | (simp only[LC.z3,LC.cvOf];done) | rfl));intro K hK;go_simp;refine hK _ ?_;clear hK K)
        refine LC.qA ?_ rfl ?_ ?_;(focus(exact hS));focus(first | (simp only[LC.z3,LC.cvOf];done) | rfl)
        intro K hK;go_simp;obtain⟨w2,hst2,ho2,hk2⟩:=hod.store hxn (f' y);rw[hst2];go_simp;have hS2:Kp [g] wr w2:=z4.trans hS hk2 (by simp);refine⟨hS2,hK _ _ ?_⟩;clear hK K hS hk2 hst2;have hS:=hS2;clear hS2;repeat(refine LC.xW rfl ?_ ?_;(focus(first | (simp only[LC.z3,LC.cvOf];done) | rfl));intro K hK;go_simp;refine hK _ ?_;clear hK K)
        refine LC.qA ?_ rfl ?_ ?_;(focus(exact hS));focus(first | (simp only[LC.z3,LC.cvOf];done) | rfl)
        intro K hK;go_simp;obtain⟨w3,hst3,ho3,hk3⟩:=ho2.store hyn (f' x);rw[hst3];go_simp;have hS2:Kp [g] wr w3:=z4.trans hS hk3 (by simp);refine⟨hS2,hK _ _ ?_⟩;clear hK K hS hk3 hst3;have hS:=hS2;clear hS2;refine LC.aN ?_;intro hS;rw[dB f' x y]at ho3;have hkz:z4 [g] w w3:=z4.trans hk hS (by simp);clear hS hne hk ho2 hod ho hrx hry;(go_wp2_with fail);go_roundw
        case rel=>exact⟨i+1,by omega,by go_num,by rw[<-Hsw.out,Hf'.out,Hx.out,Hy.out];exact ho3,hkz⟩
        case measure=>simp[intOf];omega
    · obtain rfl:i=m:=by omega
      (go_wp2_with fail);refine bodyPost_end (results_none rfl _ _ _) rfl ?_;exact⟨rfl,ho,hk⟩
end
section
open Go.RowKit Stb
theorem cK (w:World) (B g n cap:Nat) (f:Nat->zG) (a m b:Nat) (fv:Value) (hown:jR w B g n cap f) (ham:a<m) (hmb:m<b) (hb:b<=n) (hn:n<=1000000) :
    Calls Tryz.prog 186 #[.slice (some ⟨g,0,none⟩) n cap,.int .i64 a,.int .i64 m,.int .i64 b,fv] w fun e w'=>e = .returned (.tuple #[])/\jR w' B g n cap (rot f a m b)/\z4 [g] w w':=by
  go_enter Tryz.func186,Tryz.ntmps186
  obtain⟨i0,hi0⟩:∃i0,m-a=i0:=⟨_,rfl⟩
  obtain⟨j0,hj0⟩:∃j0,b-m=j0:=⟨_,rfl⟩
  have hs1:((m:Int)-(a:Int))=(i0:Int):=by omega
  have hs2:((b:Int)-(m:Int))=(j0:Int):=by omega
  have hw1:IntKind.i64.wrap (i0:Int)=(i0:Int):=IntWalk.i64_in _ (by omega);have hw2:IntKind.i64.wrap (j0:Int)=(j0:Int):=IntWalk.i64_in _ (by omega);(go_wp2_with fail);clear hs1 hs2 hw1 hw2;go_loopw [10,11] (fun iv jv wr=>∃(i j:Nat) (f':Nat->zG),iv = .int .i64 i/\jv = .int .i64 j/\0<i/\0<j/\i<=i0/\j<=j0/\jR wr B g n cap f'/\Hid (rot f' (m-i) m (m+j)=rot f a m b)/\z4 [g] w wr) (fun iv jv _=>(intOf iv).toNat+(intOf jv).toNat)
  case atStart =>
    refine⟨i0,j0,f,rfl,rfl,by omega,by omega,Nat.le_refl _,Nat.le_refl _,hown,Lib.hid ?_,z4.refl _ _⟩;rw[show m-i0=a by omega,show m+j0=b by omega]
  case round =>
    obtain⟨i,j,f',rfl,rfl,hi,hj,hii,hjj,ho,Hr,hk⟩:=hrel;obtain⟨p,hp⟩:∃p,m-i=p:=⟨_,rfl⟩
    have hp1:((m:Int)-(i:Int))=(p:Int):=by omega
    have hw1:IntKind.i64.wrap (p:Int)=(p:Int):=IntWalk.i64_in _ (by omega);rcases Nat.lt_trichotomy i j with hlt | heq | hgt
    · obtain⟨s,hs⟩:∃s,m+j=s:=⟨_,rfl⟩
      obtain⟨q,hq⟩:∃q,s-i=q:=⟨_,rfl⟩
      obtain⟨r,hr⟩:∃r,j-i=r:=⟨_,rfl⟩
      have hs1:((m:Int)+(j:Int))=(s:Int):=by omega
      have hq1:((s:Int)-(i:Int))=(q:Int):=by omega
      have hr1:((j:Int)-(i:Int))=(r:Int):=by omega
      have hw2:IntKind.i64.wrap (s:Int)=(s:Int):=IntWalk.i64_in _ (by omega);have hw3:IntKind.i64.wrap (q:Int)=(q:Int):=IntWalk.i64_in _ (by omega);have hw4:IntKind.i64.wrap (r:Int)=(r:Int):=IntWalk.i64_in _ (by omega);have c1:=fun w' (h':jR w' B g n cap f')=>dO w' B g n cap f' p q i fv h' (by omega) (by omega) hn;go_wp2_with fail
      all_goals (first | (exfalso;omega) | skip)
      refine(c1 _ ho).mono ?_;rintro e w1 ⟨rfl,ho1,hk1⟩;have hkz:z4 [g] w w1:=z4.trans hk hk1 (by simp);clear ho hk hk1 c1;(go_wp2_with fail);go_roundw
      case rel =>
        refine⟨i,r,_,by go_num,by go_num,hi,by omega,hii,by omega,ho1,Lib.hid ?_,hkz⟩;rw[<-Hr.out,<-aU f' m i j (by omega) hi hlt,hs,hq,hr,hp]
      case measure=>simp[intOf];omega
    · subst heq;have c1:=fun w' (h':jR w' B g n cap f')=>dO w' B g n cap f' p m i fv h' (by omega) (by omega) hn;go_wp2_with fail
      all_goals (first | (exfalso;omega) | skip)
      refine(c1 _ ho).mono ?_;rintro e w1 ⟨rfl,ho1,hk1⟩;have hkz:z4 [g] w w1:=z4.trans hk hk1 (by simp);clear ho hk hk1 c1;(go_wp2_with fail);refine bodyPost_end (results_none rfl _ _ _) rfl ?_;refine⟨rfl,?_,hkz⟩;rw[<-Hr.out,<-XQ f' m i (by omega),hp];exact ho1
    · obtain⟨r,hr⟩:∃r,i-j=r:=⟨_,rfl⟩
      have hr1:((i:Int)-(j:Int))=(r:Int):=by omega
      have hw4:IntKind.i64.wrap (r:Int)=(r:Int):=IntWalk.i64_in _ (by omega);have c1:=fun w' (h':jR w' B g n cap f')=>dO w' B g n cap f' p m j fv h' (by omega) (by omega) hn;go_wp2_with fail
      all_goals (first | (exfalso;omega) | skip)
      refine(c1 _ ho).mono ?_;rintro e w1 ⟨rfl,ho1,hk1⟩;have hkz:z4 [g] w w1:=z4.trans hk hk1 (by simp);clear ho hk hk1 c1;(go_wp2_with fail);go_roundw
      case rel =>
        refine⟨r,j,_,by go_num,by go_num,by omega,hj,by omega,hjj,ho1,Lib.hid ?_,hkz⟩;rw[<-Hr.out,<-nL f' m i j (by omega) hj hgt,hr,hp]
      case measure=>simp[intOf];omega
end
section
open Go.RowKit Stb
def vF (x y:zG):Bool:=gX x.h x.id y.h y.id
def yC (x y:zG):Prop:=vF x y=true
def sJ (x y:zG):Int:=if vF x y then -1 else if vF y x then 1 else 0
theorem tK (x y:zG):decide (sJ x y<0)=vF x y:=by
  unfold sJ;split
  · rename_i h;rw[h];rfl
  · rename_i h
    rw[Bool.not_eq_true]at h;rw[h];split <;> rfl
theorem gP (x y:zG):-1<=sJ x y/\sJ x y<=1:=by
  unfold sJ;repeat' split
  all_goals omega
theorem kH (x y:zG):yC x y↔x.h<y.h\/(x.h=y.h/\zO x.id y.id<0):=by
  unfold yC vF gX;split
  · rename_i h;simp[h]
  · rename_i h;simp[h]
theorem dZ:SOrd yC where
  irr x:=by rw[kH,iF];omega
  asy x y:=by
    rw[kH,kH,bH x.id y.id];omega
  tr x y z:=by
    rw[kH,kH,kH];intro h1 h2 h3;by_cases e1:z.h=x.h
    · have hyx:y.h=x.h:=by
        rcases h3 with h3 | h3 <;> omega
      have k1:¬zO y.id x.id<0:=fun h=>h1 (.inr ⟨hyx,h⟩);have k2:¬zO z.id y.id<0:=fun h=>h2 (.inr ⟨by omega,h⟩);have k3:zO z.id x.id<0:=by rcases h3 with h3 | h3;omega;exact h3.2
      have a1:=bH x.id y.id;have a2:=bH y.id z.id;by_cases z1:zO x.id y.id=0
      · rw[(jO _ _).1 z1]at k3;exact k2 k3
      · by_cases z2:zO y.id z.id=0
        · rw[<-(jO _ _).1 z2]at k3;exact k1 k3
        · have:=tZ x.id y.id z.id (by omega) (by omega);have:=bH x.id z.id;omega
    · have:z.h<x.h:=by rcases h3 with h3 | h3;exact h3;exact absurd h3.1 e1
      by_cases e2:y.h<x.h
      · exact h1 (.inl e2)
      · exact h2 (.inl (by omega))
theorem Q5 (x y:zG) (h:¬yC x y) (h':¬yC y x):x.id=y.id:=by
  rw[kH]at h h';have a:=bH x.id y.id;have e:x.h=y.h:=by omega
  apply (jO _ _).1;have:¬zO x.id y.id<0:=fun h1=>h (.inr ⟨e,h1⟩);have:¬zO y.id x.id<0:=fun h1=>h' (.inr ⟨e.symm,h1⟩);omega
theorem gU (x y:zG) (w:World) :
    Calls Tryz.prog 119 #[.agg (zL x),.agg (zL y)] w fun e w'=>e = .returned (.int .i64 (sJ x y))/\Below w.heap.size w w':=by
  have hB:Below w.heap.size w ((w.alloc (.cells (zL x) 45)).alloc (.cells (zL y) 45)):=((Below.refl _ _).alloc (Nat.le_refl _) _).alloc (by simp) _;have r1:z9 ((w.alloc (.cells (zL x) 45)).alloc (.cells (zL y) 45)) w.heap.size 0 34=some (zL x):=by simp[go_sem]
  have r2:z9 ((w.alloc (.cells (zL x) 45)).alloc (.cells (zL y) 45)) (w.heap.size+1) 0 34=some (zL y):=by simp[go_sem]
  obtain⟨W,hW⟩:∃W,(w.alloc (.cells (zL x) 45)).alloc (.cells (zL y) 45)=W:=⟨_,rfl⟩
  go_enter Tryz.func119,Tryz.ntmps119
  go_upto_region 1 with fail
  rw[hW]at hB r1 r2;obtain⟨g1,hg1⟩:∃g1,w.heap.size=g1:=⟨_,rfl⟩
  obtain⟨g2,hg2⟩:∃g2,g1+1=g2:=⟨_,rfl⟩
  rw[hg1,hg2]at r2;have hs0:g1<=W.heap.size:=by rw[<-hg1];exact hB.size
  rw[hg1]at r1 hB;rw[hg1,hg2];have a1:z9 W g1 0 32=some (idC x.id):=by have:=zV r1 (j:=0) (m:=32) (by omega);rwa [jM]at this
  have a2:z9 W g2 0 32=some (idC y.id):=by have:=zV r2 (j:=0) (m:=32) (by omega);rwa [jM]at this
  have b1:W.cell? ⟨g1,32,none⟩=some (.int .i64 x.h):=by have:=z8 r1 (j:=32) (by omega);rwa [vI,Nat.zero_add]at this
  have b2:W.cell? ⟨g2,32,none⟩=some (.int .i64 y.h):=by have:=z8 r2 (j:=32) (by omega);rwa [vI,Nat.zero_add]at this
  have c1:=hahead x.h x.id y.h y.id W;have ho:sJ x y=if vF x y then -1 else if vF y x then 1 else 0:=rfl;have e1:gX x.h x.id y.h y.id=vF x y:=rfl;have e2:gX y.h y.id x.h x.id=vF y x:=rfl;rw[e1]at c1;have c2:=fun w=>hahead y.h y.id x.h x.id w;rw[e2]at c2;obtain⟨t1,ht1⟩:∃t1,vF x y=t1:=⟨_,rfl⟩
  obtain⟨t2,ht2⟩:∃t2,vF y x=t2:=⟨_,rfl⟩
  rw[ht1]at c1 ho;rw[ht2]at c2 ho;have Ho:=Lib.hid ho;have Hg:=Lib.hid hg1;clear e1 e2 ho ht1 ht2 hW r1 r2 hg1 hg2;(go_wp2_with fail);refine c1.mono ?_;rintro e w1 ⟨rfl,hb1⟩;have a3:z9 w1 g1 0 32=some (idC x.id):=(zB (hb1.block _ (zI a1)) _ _).trans a1;have a4:z9 w1 g2 0 32=some (idC y.id):=(zB (hb1.block _ (zI a2)) _ _).trans a2;have b3:w1.cell? ⟨g1,32,none⟩=some (.int .i64 x.h):=by rw[hb1.cell (zI a1)];exact b1
  have b4:w1.cell? ⟨g2,32,none⟩=some (.int .i64 y.h):=by rw[hb1.cell (zI a2)];exact b2
  have hB1:Below g1 w w1:=hB.trans (hb1.mono hs0);have hs1:g1<=w1.heap.size:=Nat.le_trans hs0 hb1.size;clear c1 a1 a2 b1 b2 hb1 hB hs0;cases t1 with
  | true =>
    (go_wp2_with fail);go_ret;exact⟨by rw[Ho.out];rfl,by rw[Hg.out];exact hB1⟩
  | false =>
    (go_wp2_with fail);refine(c2 _).mono ?_;rintro e w2 ⟨rfl,hb2⟩;have hB2:Below g1 w w2:=hB1.trans (hb2.mono hs1);clear c2 a3 a4 b3 b4 hb2 hB1;cases t2 with
    | true =>
      (go_wp2_with fail);go_ret;exact⟨by rw[Ho.out];rfl,by rw[Hg.out];exact hB2⟩
    | false =>
      (go_wp2_with fail);go_ret;exact⟨by rw[Ho.out];rfl,by rw[Hg.out];exact hB2⟩
end
section
open Go.RowKit Stb
theorem tP (w:World) (B g n cap:Nat) (f:Nat->zG) (a b:Nat) (hown:jR w B g n cap f) (hab:a<=b) (hb:b<=n) (hn:n<=1000000) :
    Calls Tryz.prog 173 #[.slice (some ⟨g,0,none⟩) n cap,.int .i64 a,.int .i64 b,.func (.func 119) #[] #[]] w fun e w'=>e = .returned (.tuple #[])/\(∃f',jR w' B g n cap f'/\Sw a b f f'/\Srt yC a b f')/\z4 [g] w w':=by
  go_enter Tryz.func173,Tryz.ntmps173
  obtain⟨i0,hi0⟩:∃i0,a+1=i0:=⟨_,rfl⟩
  have hs1:((a:Int)+1)=(i0:Int):=by omega
  have hw1:IntKind.i64.wrap (i0:Int)=(i0:Int):=IntWalk.i64_in _ (by omega);(go_wp2_with fail);clear hs1 hw1;go_loopw [8] (fun iv wr=>∃(i:Nat) (f':Nat->zG),iv = .int .i64 i/\i0<=i/\(i<=b\/i=i0)/\jR wr B g n cap f'/\Hid (Sw a b f f'/\Srt yC a i f')/\z4 [g] w wr) (fun iv _=>b-(intOf iv).toNat)
  case atStart =>
    exact⟨i0,f,rfl,Nat.le_refl _,.inr rfl,hown,Lib.hid ⟨Sw.refl _ _ _,fun i j h1 h2 h3=>by omega⟩,z4.refl _ _⟩
  case round =>
    obtain⟨i,f',rfl,hi1,hi2,ho,HH,hk⟩:=hrel;by_cases hlt:i<b
    · obtain⟨i2,hi2⟩:∃i2,i+1=i2:=⟨_,rfl⟩
      have hs2:((i:Int)+1)=(i2:Int):=by omega
      have hw2:IntKind.i64.wrap (i2:Int)=(i2:Int):=IntWalk.i64_in _ (by omega);have Hi2:=Lib.hid hi2;(go_wp2_with fail);go_loopw [9] (fun jv wj=>∃(j:Nat),jv = .int .i64 j/\a<=j/\j<=i/\jR wj B g n cap (rot f' j i (i+1))/\Hid (j<i->yC (f' i) (f' j))/\z4 [g] w wj) (fun jv _=>(intOf jv).toNat)
      case atStart =>
        exact⟨i,rfl,by omega,Nat.le_refl _,by rw[XP];exact ho,Lib.hid (fun h=>absurd h (by omega)),hk⟩
      case round =>
        clear ho hk;obtain⟨j,rfl,hja,hji,ho,HJ,hk⟩:=hrel;obtain⟨F,hF⟩:∃F,rot f' j i (i+1)=F:=⟨_,rfl⟩
        rw[hF]at ho;have HF:=Lib.hid hF;have Hfin:=Lib.hid (show(a<j->¬yC (f' i) (f' (j-1)))->Sw a b f F/\Srt yC a i2 F from fun h2=>by
          rw[<-hF,<-Hi2.out];exact⟨HH.out.1.trans (Sw.rot f' hja (by omega) hji (by omega)),QY dZ HH.out.2 hja hji HJ.out h2⟩)
        clear hF;by_cases hgt:a<j
        · obtain⟨q,hq⟩:∃q,j-1=q:=⟨_,rfl⟩
          have hq1:((j:Int)-1)=(q:Int):=by omega
          have hw3:IntKind.i64.wrap (q:Int)=(q:Int):=IntWalk.i64_in _ (by omega);have hjn:j<n:=by omega
          have hqn:q<n:=by omega
          have Hq:=Lib.hid hq;have c2:=gU (F j) (F q) wr.drew;have hd:=tK (F j) (F q);obtain⟨t,ht⟩:∃t,vF (F j) (F q)=t:=⟨_,rfl⟩
          rw[ht]at hd;obtain⟨O,hO⟩:∃O,sJ (F j) (F q)=O:=⟨_,rfl⟩
          rw[hO]at hd c2;have Ht:=Lib.hid (show vF (f' i) (f' q)=t by rw[<-ht,<-HF.out,pG f' j i hji,fG f' j i q (by omega)]);have hor:-1<=O/\O<=1:=by rw[<-hO];exact gP _ _
          clear ht hO hq;go_upto_region 4 with fail
          refine zA (Bel wr) false (by kernel_rfl) (by kernel_rfl) (by kernel_rfl) (zC wr) ?_;have hne:=zQ wr;have hS:=zC wr;have b1:=zY (ho.row hjn);have b2:=zY (ho.row hqn);repeat(refine z6 ?_ ?_;(focus(simp only[z3];done));intro K hK;go_simp;refine hK _ ?_;clear hK K)
          refine zH ?_ ?_ ?_;(focus(exact hS));(focus(simp only[z3];done));intro K hK;go_simp;refine(c2).mono ?_;rintro e w' ⟨rfl,hb⟩;replace hS:=yN hS hb;refine⟨_,rfl,hS,hK _ _ ?_⟩;clear hK K hb;repeat(refine z6 ?_ ?_;(focus(simp only[z3];done));intro K hK;go_simp;refine hK _ ?_;clear hK K)
          refine zK ?_;intro hS;have hS':Below wr.heap.size wr w':=hS;have ho':jR w' B g n cap F:=Own.below ho hS';have hk':z4 [g] w w':=z4.trans hk (z4.of_below hS') (by simp);clear b1 b2 hne hS c2 hS' ho hk;cases t with
          | true =>
            go_upto_region 6 with fail
            have hk:=hk';have ho:=ho';have hod:jR w'.drew B g n cap F:=Own.below ho ((Below.refl _ _).drew);refine LC.t8 (.loose 0 (.loose 1 (.loose 2 (.loose 3 (.loose 4 (.loose 5 (.loose 6 (.loose 7 (.loose 8 (.loose 10 (.loose 11 (.loose 12 (.two 9 (.one 13 (.loose 14 (.one 15 (.loose 16 (.one 17 .done))))) 13 (.one 9 (.loose 14 (.one 15 (.loose 16 (.one 17 .done)))))))))))))))))) (Kp ([g]) w') (LC.cvOf 45) (by kernel_rfl) (by kernel_rfl) (by kernel_rfl) (by kernel_rfl) (zW ([g]) w') ?_;have hne:=xA ([g]) w';have hS:=zW ([g]) w';obtain⟨W,hW⟩:∃W,w'.drew=W:=⟨_,rfl⟩
            rw[hW]at hod hS |-;have hrx:=hod.row hjn;have hry:=hod.row hqn;clear hW hk' ho';repeat(refine LC.xW rfl ?_ ?_;(focus(first | (simp only[LC.z3,LC.cvOf];done) | rfl));intro K hK;go_simp;refine hK _ ?_;clear hK K)
            refine LC.gH ?_ ?_
            · skip;refine LC.qA ?_ rfl ?_ ?_;(focus(exact hS));focus(first | (simp only[LC.z3,LC.cvOf];done) | rfl)
              intro K hK;go_simp;refine hK _ _ ?_;clear hK K;refine LC.qA ?_ rfl ?_ ?_;(focus(exact hS));focus(first | (simp only[LC.z3,LC.cvOf];done) | rfl)
              intro K hK;go_simp;refine hK _ _ ?_;clear hK K;repeat(refine LC.xW rfl ?_ ?_;(focus(first | (simp only[LC.z3,LC.cvOf];done) | rfl));intro K hK;go_simp;refine hK _ ?_;clear hK K)
              refine LC.qA ?_ rfl ?_ ?_;(focus(exact hS));focus(first | (simp only[LC.z3,LC.cvOf];done) | rfl)
              intro K hK;go_simp;obtain⟨w2,hst2,ho2,hk2⟩:=hod.store hjn (F q);rw[hst2];go_simp;have hS2:Kp [g] w' w2:=z4.trans hS hk2 (by simp);refine⟨hS2,hK _ _ ?_⟩;clear hK K hS hk2 hst2;have hS:=hS2;clear hS2;repeat(refine LC.xW rfl ?_ ?_;(focus(first | (simp only[LC.z3,LC.cvOf];done) | rfl));intro K hK;go_simp;refine hK _ ?_;clear hK K)
              refine LC.qA ?_ rfl ?_ ?_;(focus(exact hS));focus(first | (simp only[LC.z3,LC.cvOf];done) | rfl)
              intro K hK;go_simp;obtain⟨w3,hst3,ho3,hk3⟩:=ho2.store hqn (F j);rw[hst3];go_simp;have hS2:Kp [g] w' w3:=z4.trans hS hk3 (by simp);refine⟨hS2,hK _ _ ?_⟩;clear hK K hS hk3 hst3;have hS:=hS2;clear hS2;refine LC.aN ?_;intro hS;rw[dB F j q]at ho3;have hkz:z4 [g] w w3:=z4.trans hk hS (by simp);clear hS hne hk ho2 hod ho hrx hry;(go_wp2_with fail);go_roundw
              case rel =>
                have hsw:swp F j q=rot f' q i (i+1):=by
                  rw[<-HF.out,<-rG f' q i (by omega)];rw[show q+1=j by omega]
                rw[hsw]at ho3;exact⟨q,by go_num,by omega,by omega,ho3,Lib.hid (fun _=>Ht.out),hkz⟩
              case measure=>simp[intOf];omega
            · skip;refine LC.qA ?_ rfl ?_ ?_;(focus(exact hS));focus(first | (simp only[LC.z3,LC.cvOf];done) | rfl)
              intro K hK;go_simp;refine hK _ _ ?_;clear hK K;refine LC.qA ?_ rfl ?_ ?_;(focus(exact hS));focus(first | (simp only[LC.z3,LC.cvOf];done) | rfl)
              intro K hK;go_simp;refine hK _ _ ?_;clear hK K;repeat(refine LC.xW rfl ?_ ?_;(focus(first | (simp only[LC.z3,LC.cvOf];done) | rfl));intro K hK;go_simp;refine hK _ ?_;clear hK K)
              refine LC.qA ?_ rfl ?_ ?_;(focus(exact hS));focus(first | (simp only[LC.z3,LC.cvOf];done) | rfl)
              intro K hK;go_simp;obtain⟨w2,hst2,ho2,hk2⟩:=hod.store hjn (F q);rw[hst2];go_simp;have hS2:Kp [g] w' w2:=z4.trans hS hk2 (by simp);refine⟨hS2,hK _ _ ?_⟩;clear hK K hS hk2 hst2;have hS:=hS2;clear hS2;repeat(refine LC.xW rfl ?_ ?_;(focus(first | (simp only[LC.z3,LC.cvOf];done) | rfl));intro K hK;go_simp;refine hK _ ?_;clear hK K)
              refine LC.qA ?_ rfl ?_ ?_;(focus(exact hS));focus(first | (simp only[LC.z3,LC.cvOf];done) | rfl)
              intro K hK;go_simp;obtain⟨w3,hst3,ho3,hk3⟩:=ho2.store hqn (F j);rw[hst3];go_simp;have hS2:Kp [g] w' w3:=z4.trans hS hk3 (by simp);refine⟨hS2,hK _ _ ?_⟩;clear hK K hS hk3 hst3;have hS:=hS2;clear hS2;refine LC.aN ?_;intro hS;rw[dB F j q]at ho3;have hkz:z4 [g] w w3:=z4.trans hk hS (by simp);clear hS hne hk ho2 hod ho hrx hry;(go_wp2_with fail);go_roundw
              case rel =>
                have hsw:swp F j q=rot f' q i (i+1):=by
                  rw[<-HF.out,<-rG f' q i (by omega)];rw[show q+1=j by omega]
                rw[hsw]at ho3;exact⟨q,by go_num,by omega,by omega,ho3,Lib.hid (fun _=>Ht.out),hkz⟩
              case measure=>simp[intOf];omega
          | false =>
            (go_wp2_with fail);go_roundw
            case rel =>
              refine⟨i2,F,by go_num,by omega,.inl (by omega),ho',Lib.hid (Hfin.out fun _=>?_),hk'⟩;unfold yC;rw[Hq.out,Ht.out];simp
            case measure=>simp[intOf];omega
        · go_upto_region 4 with fail
          refine zA (Bel wr) false (by kernel_rfl) (by kernel_rfl) (by kernel_rfl) (zC wr) ?_;have hne:=zQ wr;have hS:=zC wr;repeat(refine z6 ?_ ?_;(focus(simp only[z3];done));intro K hK;go_simp;refine hK _ ?_;clear hK K)
          refine zH ?_ ?_ ?_;(focus(exact hS));(focus(simp only[z3];done));intro K hK;go_simp;refine hK _ _ ?_;clear hK K;repeat(refine z6 ?_ ?_;(focus(simp only[z3];done));intro K hK;go_simp;refine hK _ ?_;clear hK K)
          refine zK ?_;intro hS;have hS':Below wr.heap.size wr wr.drew:=hS;have ho':jR wr.drew B g n cap F:=Own.below ho hS';have hk':z4 [g] w wr.drew:=z4.trans hk (z4.of_below hS') (by simp);clear hne hS hS' ho hk;(go_wp2_with fail);go_roundw
          case rel=>exact⟨i2,F,by go_num,by omega,.inl (by omega),ho',Lib.hid (Hfin.out fun h=>absurd h hgt),hk'⟩
          case measure=>simp[intOf];omega
    · (go_wp2_with fail);refine bodyPost_end (results_none rfl _ _ _) rfl ?_;exact⟨rfl,⟨f',ho,HH.out.1,HH.out.2.sub (Nat.le_refl _) (by omega)⟩,hk⟩
end
section
open Go.RowKit Stb
theorem js (w:World) (B g n cap:Nat) (f:Nat->zG) (a b:Nat) (hown:jR w B g n cap f) (hab:a+1<b) (hb:b<=n) (hn:n<=1000000) (hsr:Srt yC (a+1) b f) :
    Calls Tryz.prog 174 #[.slice (some ⟨g,0,none⟩) n cap,.int .i64 a,.int .i64 (a+1:Nat),.int .i64 b,.func (.func 119) #[] #[]] w fun e w'=>e = .returned (.tuple #[])/\(∃f',jR w' B g n cap f'/\Sw a b f f'/\Srt yC a b f')/\z4 [g] w w':=by
  go_enter Tryz.func174,Tryz.ntmps174
  obtain⟨m,hm⟩:∃m,a+1=m:=⟨_,rfl⟩
  rw[hm];have hs1:((m:Int)-(a:Int))=1:=by omega
  have Hsr:=Lib.hid hsr;have Hm:=Lib.hid hm;clear hsr;(go_wp2_with fail);clear hs1;go_loopw [10,11] (fun iv jv wr=>∃(i j:Nat),iv = .int .i64 i/\jv = .int .i64 j/\m<=i/\i<=j/\j<=b/\jR wr B g n cap f/\Hid ((m<i->yC (f (i-1)) (f a))/\(j<b->¬yC (f j) (f a)))/\z4 [g] w wr) (fun iv jv _=>(intOf jv).toNat-(intOf iv).toNat)
  case atStart =>
    exact⟨m,b,rfl,rfl,Nat.le_refl _,by omega,Nat.le_refl _,hown,Lib.hid ⟨fun h=>absurd h (by omega),fun h=>absurd h (by omega)⟩,z4.refl _ _⟩
  case round =>
    obtain⟨i,j,rfl,rfl,hi1,hij,hjb,ho,HH,hk⟩:=hrel;by_cases hlt:i<j
    · obtain⟨h,hh⟩:∃h,(i+j) / 2=h:=⟨_,rfl⟩
      have hh1:((i:Int)+(j:Int)) / 2=(h:Int):=by omega
      have hih:i<=h:=by omega
      have hhj:h<j:=by omega
      have hhn:h<n:=by omega
      have han:a<n:=by omega
      obtain⟨h2,hh2⟩:∃h2,h+1=h2:=⟨_,rfl⟩
      have hh3:((h:Int)+1)=(h2:Int):=by omega
      have hw3:IntKind.i64.wrap (h2:Int)=(h2:Int):=IntWalk.i64_in _ (by omega);have Hh2:=Lib.hid hh2;have c2:=gU (f h) (f a) wr.drew;have hd:=tK (f h) (f a);obtain⟨t,ht⟩:∃t,vF (f h) (f a)=t:=⟨_,rfl⟩
      rw[ht]at hd;obtain⟨O,hO⟩:∃O,sJ (f h) (f a)=O:=⟨_,rfl⟩
      rw[hO]at hd c2;have Ht:=Lib.hid ht;have hor:-1<=O/\O<=1:=by rw[<-hO];exact gP _ _
      clear ht hO hh;go_upto_region 5 with fail
      refine zA (Bel wr) false (by kernel_rfl) (by kernel_rfl) (by kernel_rfl) (zC wr) ?_;have hne:=zQ wr;have hS:=zC wr;have b1:=zY (ho.row hhn);have b2:=zY (ho.row han);repeat(refine z6 ?_ ?_;(focus(simp only[z3];done));intro K hK;go_simp;refine hK _ ?_;clear hK K)
      refine zH ?_ ?_ ?_;(focus(exact hS));(focus(simp only[z3];done));intro K hK;go_simp;refine(c2).mono ?_;rintro e w' ⟨rfl,hb⟩;replace hS:=yN hS hb;refine⟨_,rfl,hS,hK _ _ ?_⟩;clear hK K hb;repeat(refine z6 ?_ ?_;(focus(simp only[z3];done));intro K hK;go_simp;refine hK _ ?_;clear hK K)
      refine zK ?_;intro hS;have hS':Below wr.heap.size wr w':=hS;have ho':jR w' B g n cap f:=Own.below ho hS';have hk':z4 [g] w w':=z4.trans hk (z4.of_below hS') (by simp);clear b1 b2 hne hS c2 hS' ho hk;cases t with
      | true =>
        (go_wp2_with fail);go_roundw
        case rel =>
          refine⟨h2,j,by go_num,by go_num,by omega,by omega,hjb,ho',Lib.hid ⟨fun _=>?_,HH.out.2⟩,hk'⟩;rw[<-Hh2.out];exact Ht.out
        case measure=>simp[intOf];omega
      | false =>
        (go_wp2_with fail);go_roundw
        case rel =>
          refine⟨i,h,by go_num,by go_num,hi1,hih,by omega,ho',Lib.hid ⟨HH.out.1,fun _=>?_⟩,hk'⟩;unfold yC;rw[Ht.out];simp
        case measure=>simp[intOf];omega
    · obtain rfl:i=j:=by omega
      obtain⟨e1,he1⟩:∃e1,i-1=e1:=⟨_,rfl⟩
      have he2:((i:Int)-1)=(e1:Int):=by omega
      have hw1:IntKind.i64.wrap (e1:Int)=(e1:Int):=IntWalk.i64_in _ (by omega);have Hfin:=Lib.hid (show Sw a b f (rot f a m i)/\Srt yC a b (rot f a m i)from by
        rw[<-Hm.out];exact⟨Sw.rot f (Nat.le_refl _) hjb (by omega) (by omega),up_srt dZ Hsr.out (by omega) hjb (fun h=>HH.out.1 (by omega)) HH.out.2⟩)
      have He1:=Lib.hid he1;(go_wp2_with fail);go_loopw [13] (fun kv wj=>∃(k:Nat),kv = .int .i64 k/\a<=k/\k<=e1/\jR wj B g n cap (rot f a m (k+1))/\z4 [g] w wj) (fun kv _=>e1-(intOf kv).toNat)
      case atStart =>
        exact⟨a,rfl,Nat.le_refl _,by omega,by rw[<-Hm.out,rot_one];exact ho,hk⟩
      case round =>
        clear ho hk;obtain⟨k,rfl,hka,hke,ho,hk⟩:=hrel;by_cases hlt2:k<e1
        · obtain⟨y,hy⟩:∃y,k+1=y:=⟨_,rfl⟩
          have hy1:((k:Int)+1)=(y:Int):=by omega
          have hw4:IntKind.i64.wrap (y:Int)=(y:Int):=IntWalk.i64_in _ (by omega);have hkn:k<n:=by omega
          have hyn:y<n:=by omega
          obtain⟨F,hF⟩:∃F,rot f a m (k+1)=F:=⟨_,rfl⟩
          rw[hF]at ho;have hsw:swp F k y=rot f a m (y+1):=by rw[<-hF,<-hy,<-Hm.out];exact up_step f a k hka
          have Hsw:=Lib.hid hsw;have Hy:=Lib.hid hy;clear hF hsw hy;go_upto_region 11 with fail
          have hod:jR wr.drew B g n cap F:=Own.below ho ((Below.refl _ _).drew);refine LC.t8 (.loose 0 (.loose 1 (.loose 2 (.loose 3 (.loose 4 (.loose 5 (.loose 6 (.loose 7 (.loose 8 (.loose 10 (.loose 11 (.loose 12 (.two 9 (.one 13 (.loose 14 (.one 15 (.loose 16 (.one 17 .done))))) 13 (.one 9 (.loose 14 (.one 15 (.loose 16 (.one 17 .done)))))))))))))))))) (Kp ([g]) wr) (LC.cvOf 45) (by kernel_rfl) (by kernel_rfl) (by kernel_rfl) (by kernel_rfl) (zW ([g]) wr) ?_;have hne:=xA ([g]) wr;have hS:=zW ([g]) wr;obtain⟨W,hW⟩:∃W,wr.drew=W:=⟨_,rfl⟩
          rw[hW]at hod hS |-;have hrx:=hod.row hkn;have hry:=hod.row hyn;clear hW;repeat(refine LC.xW rfl ?_ ?_;(focus(first | (simp only[LC.z3,LC.cvOf];done) | rfl));intro K hK;go_simp;refine hK _ ?_;clear hK K)
          refine LC.gH ?_ ?_
          · skip;refine LC.qA ?_ rfl ?_ ?_;(focus(exact hS));focus(first | (simp only[LC.z3,LC.cvOf];done) | rfl)
            intro K hK;go_simp;refine hK _ _ ?_;clear hK K;refine LC.qA ?_ rfl ?_ ?_;(focus(exact hS));focus(first | (simp only[LC.z3,LC.cvOf];done) | rfl)
            intro K hK;go_simp;refine hK _ _ ?_;clear hK K;repeat(refine LC.xW rfl ?_ ?_;(focus(first | (simp only[LC.z3,LC.cvOf];done) | rfl));intro K hK;go_simp;refine hK _ ?_;clear hK K)
            refine LC.qA ?_ rfl ?_ ?_;(focus(exact hS));focus(first | (simp only[LC.z3,LC.cvOf];done) | rfl)
            intro K hK;go_simp;obtain⟨w2,hst2,ho2,hk2⟩:=hod.store hkn (F y);rw[hst2];go_simp;have hS2:Kp [g] wr w2:=z4.trans hS hk2 (by simp);refine⟨hS2,hK _ _ ?_⟩;clear hK K hS hk2 hst2;have hS:=hS2;clear hS2;repeat(refine LC.xW rfl ?_ ?_;(focus(first | (simp only[LC.z3,LC.cvOf];done) | rfl));intro K hK;go_simp;refine hK _ ?_;clear hK K)
            refine LC.qA ?_ rfl ?_ ?_;(focus(exact hS));focus(first | (simp only[LC.z3,LC.cvOf];done) | rfl)
            intro K hK;go_simp;obtain⟨w3,hst3,ho3,hk3⟩:=ho2.store hyn (F k);rw[hst3];go_simp;have hS2:Kp [g] wr w3:=z4.trans hS hk3 (by simp);refine⟨hS2,hK _ _ ?_⟩;clear hK K hS hk3 hst3;have hS:=hS2;clear hS2;refine LC.aN ?_;intro hS;rw[dB F k y]at ho3;have hkz:z4 [g] w w3:=z4.trans hk hS (by simp);clear hS hne hk ho2 hod ho hrx hry;rw[Hsw.out]at ho3;(go_wp2_with fail);go_roundw
            case rel=>exact⟨y,by go_num,by have:=Hy.out;omega,by have:=Hy.out;omega,ho3,hkz⟩
            case measure=>have:=Hy.out;simp[intOf];omega
          · skip;refine LC.qA ?_ rfl ?_ ?_;(focus(exact hS));focus(first | (simp only[LC.z3,LC.cvOf];done) | rfl)
            intro K hK;go_simp;refine hK _ _ ?_;clear hK K;refine LC.qA ?_ rfl ?_ ?_;(focus(exact hS));focus(first | (simp only[LC.z3,LC.cvOf];done) | rfl)
            intro K hK;go_simp;refine hK _ _ ?_;clear hK K;repeat(refine LC.xW rfl ?_ ?_;(focus(first | (simp only[LC.z3,LC.cvOf];done) | rfl));intro K hK;go_simp;refine hK _ ?_;clear hK K)
            refine LC.qA ?_ rfl ?_ ?_;(focus(exact hS));focus(first | (simp only[LC.z3,LC.cvOf];done) | rfl)
            intro K hK;go_simp;obtain⟨w2,hst2,ho2,hk2⟩:=hod.store hkn (F y);rw[hst2];go_simp;have hS2:Kp [g] wr w2:=z4.trans hS hk2 (by simp);refine⟨hS2,hK _ _ ?_⟩;clear hK K hS hk2 hst2;have hS:=hS2;clear hS2;repeat(refine LC.xW rfl ?_ ?_;(focus(first | (simp only[LC.z3,LC.cvOf];done) | rfl));intro K hK;go_simp;refine hK _ ?_;clear hK K)
            refine LC.qA ?_ rfl ?_ ?_;(focus(exact hS));focus(first | (simp only[LC.z3,LC.cvOf];done) | rfl)
            intro K hK;go_simp;obtain⟨w3,hst3,ho3,hk3⟩:=ho2.store hyn (F k);rw[hst3];go_simp;have hS2:Kp [g] wr w3:=z4.trans hS hk3 (by simp);refine⟨hS2,hK _ _ ?_⟩;clear hK K hS hk3 hst3;have hS:=hS2;clear hS2;refine LC.aN ?_;intro hS;rw[dB F k y]at ho3;have hkz:z4 [g] w w3:=z4.trans hk hS (by simp);clear hS hne hk ho2 hod ho hrx hry;rw[Hsw.out]at ho3;(go_wp2_with fail);go_roundw
            case rel=>exact⟨y,by go_num,by have:=Hy.out;omega,by have:=Hy.out;omega,ho3,hkz⟩
            case measure=>have:=Hy.out;simp[intOf];omega
        · obtain rfl:k=e1:=by omega
          (go_wp2_with fail);refine bodyPost_ret (results_none rfl _ _ _) rfl ?_;have hke1:k+1=i:=by omega
          rw[hke1]at ho;exact⟨rfl,⟨_,ho,Hfin.out.1,Hfin.out.2⟩,hk⟩
end
section
open Go.RowKit Stb
theorem jq (w:World) (B g n cap:Nat) (f:Nat->zG) (a m:Nat) (hown:jR w B g n cap f) (ham:a+1<m) (hb:m+1<=n) (hn:n<=1000000) (hsr:Srt yC a m f) :
    Calls Tryz.prog 174 #[.slice (some ⟨g,0,none⟩) n cap,.int .i64 a,.int .i64 m,.int .i64 (m+1:Nat),.func (.func 119) #[] #[]] w fun e w'=>e = .returned (.tuple #[])/\(∃f',jR w' B g n cap f'/\Sw a (m+1) f f'/\Srt yC a (m+1) f')/\z4 [g] w w':=by
  go_enter Tryz.func174,Tryz.ntmps174
  obtain⟨b,hm⟩:∃b,m+1=b:=⟨_,rfl⟩
  obtain⟨d,hdd⟩:∃d,m-a=d:=⟨_,rfl⟩
  rw[hm];have hs0:((m:Int)-(a:Int))=(d:Int):=by omega
  have hw0:IntKind.i64.wrap (d:Int)=(d:Int):=IntWalk.i64_in _ (by omega);have hs1:((b:Int)-(m:Int))=1:=by omega
  have hd1:d≠1:=by omega
  have hd2:((d:Int)==1)=false:=by simp;omega
  have Hsr:=Lib.hid hsr;have Hm:=Lib.hid hm;clear hsr;(go_wp2_with fail);clear hs1 hs0 hw0 hd2;go_loopw [14,15] (fun iv jv wr=>∃(i j:Nat),iv = .int .i64 i/\jv = .int .i64 j/\a<=i/\i<=j/\j<=m/\jR wr B g n cap f/\Hid ((a<i->¬yC (f m) (f (i-1)))/\(j<m->yC (f m) (f j)))/\z4 [g] w wr) (fun iv jv _=>(intOf jv).toNat-(intOf iv).toNat)
  case atStart =>
    exact⟨a,m,rfl,rfl,Nat.le_refl _,by omega,Nat.le_refl _,hown,Lib.hid ⟨fun h=>absurd h (by omega),fun h=>absurd h (by omega)⟩,z4.refl _ _⟩
  case round =>
    obtain⟨i,j,rfl,rfl,hi1,hij,hjb,ho,HH,hk⟩:=hrel;by_cases hlt:i<j
    · obtain⟨h,hh⟩:∃h,(i+j) / 2=h:=⟨_,rfl⟩
      have hh1:((i:Int)+(j:Int)) / 2=(h:Int):=by omega
      have hih:i<=h:=by omega
      have hhj:h<j:=by omega
      have hhn:h<n:=by omega
      have hmn:m<n:=by omega
      obtain⟨h2,hh2⟩:∃h2,h+1=h2:=⟨_,rfl⟩
      have hh3:((h:Int)+1)=(h2:Int):=by omega
      have hw3:IntKind.i64.wrap (h2:Int)=(h2:Int):=IntWalk.i64_in _ (by omega);have Hh2:=Lib.hid hh2;have c2:=gU (f m) (f h) wr.drew;have hd:=tK (f m) (f h);obtain⟨t,ht⟩:∃t,vF (f m) (f h)=t:=⟨_,rfl⟩
      rw[ht]at hd;obtain⟨O,hO⟩:∃O,sJ (f m) (f h)=O:=⟨_,rfl⟩
      rw[hO]at hd c2;have Ht:=Lib.hid ht;have hor:-1<=O/\O<=1:=by rw[<-hO];exact gP _ _
      clear ht hO hh;go_upto_region 17 with fail
      refine zA (Bel wr) false (by kernel_rfl) (by kernel_rfl) (by kernel_rfl) (zC wr) ?_;have hne:=zQ wr;have hS:=zC wr;have b1:=zY (ho.row hhn);have b2:=zY (ho.row hmn);repeat(refine z6 ?_ ?_;(focus(simp only[z3];done));intro K hK;go_simp;refine hK _ ?_;clear hK K)
      refine zH ?_ ?_ ?_;(focus(exact hS));(focus(simp only[z3];done));intro K hK;go_simp;refine(c2).mono ?_;rintro e w' ⟨rfl,hb⟩;replace hS:=yN hS hb;refine⟨_,rfl,hS,hK _ _ ?_⟩;clear hK K hb;repeat(refine z6 ?_ ?_;(focus(simp only[z3];done));intro K hK;go_simp;refine hK _ ?_;clear hK K)
      refine zK ?_;intro hS;have hS':Below wr.heap.size wr w':=hS;have ho':jR w' B g n cap f:=Own.below ho hS';have hk':z4 [g] w w':=z4.trans hk (z4.of_below hS') (by simp);clear b1 b2 hne hS c2 hS' ho hk;cases t with
      | false =>
        (go_wp2_with fail);go_roundw
        case rel =>
          refine⟨h2,j,by go_num,by go_num,by omega,by omega,hjb,ho',Lib.hid ⟨fun _=>?_,HH.out.2⟩,hk'⟩;rw[<-Hh2.out];unfold yC;rw[Nat.add_sub_cancel,Ht.out];simp
        case measure=>simp[intOf];omega
      | true =>
        (go_wp2_with fail);go_roundw
        case rel=>exact⟨i,h,by go_num,by go_num,hi1,hih,by omega,ho',Lib.hid ⟨HH.out.1,fun _=>Ht.out⟩,hk'⟩
        case measure=>simp[intOf];omega
    · obtain rfl:i=j:=by omega
      have Hfin:=Lib.hid (show Sw a b f (rot f i m b)/\Srt yC a b (rot f i m b)from by
        rw[<-Hm.out];exact⟨Sw.rot f hi1 (Nat.le_refl _) hjb (by omega),QY dZ Hsr.out hi1 hjb HH.out.2 HH.out.1⟩)
      (go_wp2_with fail);go_loopw [17] (fun kv wj=>∃(k:Nat),kv = .int .i64 k/\i<=k/\k<=m/\jR wj B g n cap (rot f k m b)/\z4 [g] w wj) (fun kv _=>(intOf kv).toNat)
      case atStart =>
        exact⟨m,rfl,hjb,Nat.le_refl _,by rw[<-Hm.out,XP];exact ho,hk⟩
      case round =>
        clear ho hk;obtain⟨k,rfl,hki,hkm,ho,hk⟩:=hrel;by_cases hlt2:i<k
        · obtain⟨y,hy⟩:∃y,k-1=y:=⟨_,rfl⟩
          have hy1:((k:Int)-1)=(y:Int):=by omega
          have hw4:IntKind.i64.wrap (y:Int)=(y:Int):=IntWalk.i64_in _ (by omega);have hkn:k<n:=by omega
          have hyn:y<n:=by omega
          obtain⟨F,hF⟩:∃F,rot f k m b=F:=⟨_,rfl⟩
          rw[hF]at ho;have hsw:swp F k y=rot f y m b:=by
            have h9:=rG f y m (by omega);rw[show y+1=k by omega,Hm.out]at h9;rw[<-hF];exact h9
          have Hsw:=Lib.hid hsw;have Hy:=Lib.hid (show y+1=k/\i<=y by omega);clear hF hsw hy;go_upto_region 23 with fail
          have hod:jR wr.drew B g n cap F:=Own.below ho ((Below.refl _ _).drew);refine LC.t8 (.loose 0 (.loose 1 (.loose 2 (.loose 3 (.loose 4 (.loose 5 (.loose 6 (.loose 7 (.loose 8 (.loose 10 (.loose 11 (.loose 12 (.two 9 (.one 13 (.loose 14 (.one 15 (.loose 16 (.one 17 .done))))) 13 (.one 9 (.loose 14 (.one 15 (.loose 16 (.one 17 .done)))))))))))))))))) (Kp ([g]) wr) (LC.cvOf 45) (by kernel_rfl) (by kernel_rfl) (by kernel_rfl) (by kernel_rfl) (zW ([g]) wr) ?_;have hne:=xA ([g]) wr;have hS:=zW ([g]) wr;obtain⟨W,hW⟩:∃W,wr.drew=W:=⟨_,rfl⟩
          rw[hW]at hod hS |-;have hrx:=hod.row hkn;have hry:=hod.row hyn;clear hW;repeat(refine LC.xW rfl ?_ ?_;(focus(first | (simp only[LC.z3,LC.cvOf];done) | rfl));intro K hK;go_simp;refine hK _ ?_;clear hK K)
          refine LC.gH ?_ ?_
          · skip;refine LC.qA ?_ rfl ?_ ?_;(focus(exact hS));focus(first | (simp only[LC.z3,LC.cvOf];done) | rfl)
            intro K hK;go_simp;refine hK _ _ ?_;clear hK K;refine LC.qA ?_ rfl ?_ ?_;(focus(exact hS));focus(first | (simp only[LC.z3,LC.cvOf];done) | rfl)
            intro K hK;go_simp;refine hK _ _ ?_;clear hK K;repeat(refine LC.xW rfl ?_ ?_;(focus(first | (simp only[LC.z3,LC.cvOf];done) | rfl));intro K hK;go_simp;refine hK _ ?_;clear hK K)
            refine LC.qA ?_ rfl ?_ ?_;(focus(exact hS));focus(first | (simp only[LC.z3,LC.cvOf];done) | rfl)
            intro K hK;go_simp;obtain⟨w2,hst2,ho2,hk2⟩:=hod.store hkn (F y);rw[hst2];go_simp;have hS2:Kp [g] wr w2:=z4.trans hS hk2 (by simp);refine⟨hS2,hK _ _ ?_⟩;clear hK K hS hk2 hst2;have hS:=hS2;clear hS2;repeat(refine LC.xW rfl ?_ ?_;(focus(first | (simp only[LC.z3,LC.cvOf];done) | rfl));intro K hK;go_simp;refine hK _ ?_;clear hK K)
            refine LC.qA ?_ rfl ?_ ?_;(focus(exact hS));focus(first | (simp only[LC.z3,LC.cvOf];done) | rfl)
            intro K hK;go_simp;obtain⟨w3,hst3,ho3,hk3⟩:=ho2.store hyn (F k);rw[hst3];go_simp;have hS2:Kp [g] wr w3:=z4.trans hS hk3 (by simp);refine⟨hS2,hK _ _ ?_⟩;clear hK K hS hk3 hst3;have hS:=hS2;clear hS2;refine LC.aN ?_;intro hS;rw[dB F k y]at ho3;have hkz:z4 [g] w w3:=z4.trans hk hS (by simp);clear hS hne hk ho2 hod ho hrx hry;rw[Hsw.out]at ho3;(go_wp2_with fail);go_roundw
            case rel=>exact⟨y,by go_num,Hy.out.2,by have:=Hy.out;omega,ho3,hkz⟩
            case measure=>have:=Hy.out;simp[intOf];omega
          · skip;refine LC.qA ?_ rfl ?_ ?_;(focus(exact hS));focus(first | (simp only[LC.z3,LC.cvOf];done) | rfl)
            intro K hK;go_simp;refine hK _ _ ?_;clear hK K;refine LC.qA ?_ rfl ?_ ?_;(focus(exact hS));focus(first | (simp only[LC.z3,LC.cvOf];done) | rfl)
            intro K hK;go_simp;refine hK _ _ ?_;clear hK K;repeat(refine LC.xW rfl ?_ ?_;(focus(first | (simp only[LC.z3,LC.cvOf];done) | rfl));intro K hK;go_simp;refine hK _ ?_;clear hK K)
            refine LC.qA ?_ rfl ?_ ?_;(focus(exact hS));focus(first | (simp only[LC.z3,LC.cvOf];done) | rfl)
            intro K hK;go_simp;obtain⟨w2,hst2,ho2,hk2⟩:=hod.store hkn (F y);rw[hst2];go_simp;have hS2:Kp [g] wr w2:=z4.trans hS hk2 (by simp);refine⟨hS2,hK _ _ ?_⟩;clear hK K hS hk2 hst2;have hS:=hS2;clear hS2;repeat(refine LC.xW rfl ?_ ?_;(focus(first | (simp only[LC.z3,LC.cvOf];done) | rfl));intro K hK;go_simp;refine hK _ ?_;clear hK K)
            refine LC.qA ?_ rfl ?_ ?_;(focus(exact hS));focus(first | (simp only[LC.z3,LC.cvOf];done) | rfl)
            intro K hK;go_simp;obtain⟨w3,hst3,ho3,hk3⟩:=ho2.store hyn (F k);rw[hst3];go_simp;have hS2:Kp [g] wr w3:=z4.trans hS hk3 (by simp);refine⟨hS2,hK _ _ ?_⟩;clear hK K hS hk3 hst3;have hS:=hS2;clear hS2;refine LC.aN ?_;intro hS;rw[dB F k y]at ho3;have hkz:z4 [g] w w3:=z4.trans hk hS (by simp);clear hS hne hk ho2 hod ho hrx hry;rw[Hsw.out]at ho3;(go_wp2_with fail);go_roundw
            case rel=>exact⟨y,by go_num,Hy.out.2,by have:=Hy.out;omega,ho3,hkz⟩
            case measure=>have:=Hy.out;simp[intOf];omega
        · obtain rfl:k=i:=by omega
          (go_wp2_with fail);refine bodyPost_ret (results_none rfl _ _ _) rfl ?_;exact⟨rfl,⟨_,ho,Hfin.out.1,Hfin.out.2⟩,hk⟩
end
section
open Go.RowKit Stb
def SymM (g n cap B a m b:Nat):Prop:=∀(f:Nat->zG) (w:World),jR w B g n cap f->Srt yC a m f->Srt yC m b f ->
  Calls Tryz.prog 174 #[.slice (some ⟨g,0,none⟩) n cap,.int .i64 a,.int .i64 m,.int .i64 b,.func (.func 119) #[] #[]] w fun e w'=>e = .returned (.tuple #[])/\(∃f',jR w' B g n cap f'/\Sw a b f f'/\Srt yC a b f')/\z4 [g] w w'
theorem XC {a m b mid s e:Nat} {f f1 f2:Nat->zG} (h1:Srt yC a m f) (h2:Srt yC m b f) (ha:a<=s) (hs:s<=m) (he:m<=e) (heb:e<=b) (hm:s+(e-m)=mid) (hmb:mid<=b) (ham:a<=mid)
    (hlo:a<s->e<b->¬yC (f e) (f (s-1))) (hhi:m<e->s<m->yC (f (e-1)) (f s))
    (k1:Sw a mid (rot f s m e) f1/\Srt yC a mid f1) (k2:Sw mid b f1 f2/\Srt yC mid b f2):Sw a b f f2/\Srt yC a b f2:=by
  obtain⟨q1,q2,q3,q4,q5⟩:=pZ dZ h1 h2 ha hs he heb hm hlo hhi;exact⟨((Sw.rot f ha heb hs he).trans (k1.1.wide (Nat.le_refl _) hmb)).trans (k2.1.wide ham (Nat.le_refl _)),VP k1.1 k2.1 k1.2 k2.2 q5⟩
theorem jr (w:World) (B g n cap:Nat) (f:Nat->zG) (a m b:Nat) (hown:jR w B g n cap f) (ham:a+1<m) (hmb:m+1<b) (hb:b<=n) (hn:n<=1000000) (hsl:Srt yC a m f) (hsr:Srt yC m b f)
    (ih:∀a' m' b',b'-a'<b-a->a'<m'->m'<b'->b'<=b->SymM g n cap B a' m' b') :
    Calls Tryz.prog 174 #[.slice (some ⟨g,0,none⟩) n cap,.int .i64 a,.int .i64 m,.int .i64 b,.func (.func 119) #[] #[]] w fun e w'=>e = .returned (.tuple #[])/\(∃f',jR w' B g n cap f'/\Sw a b f f'/\Srt yC a b f')/\z4 [g] w w':=by
  go_enter Tryz.func174,Tryz.ntmps174
  obtain⟨d,hdd⟩:∃d,m-a=d:=⟨_,rfl⟩
  have hs0:((m:Int)-(a:Int))=(d:Int):=by omega
  have hw0:IntKind.i64.wrap (d:Int)=(d:Int):=IntWalk.i64_in _ (by omega);have hd2:((d:Int)==1)=false:=by simp;omega
  obtain⟨d',hdd'⟩:∃d',b-m=d':=⟨_,rfl⟩
  have hs0':((b:Int)-(m:Int))=(d':Int):=by omega
  have hw0':IntKind.i64.wrap (d':Int)=(d':Int):=IntWalk.i64_in _ (by omega);have hd2':((d':Int)==1)=false:=by simp;omega
  obtain⟨mid,hmid⟩:∃mid,(a+b) / 2=mid:=⟨_,rfl⟩
  have hmid1:((a:Int)+(b:Int)) / 2=(mid:Int):=by omega
  obtain⟨N,hN⟩:∃N,mid+m=N:=⟨_,rfl⟩
  have hN1:((mid:Int)+(m:Int))=(N:Int):=by omega
  have hwN:IntKind.i64.wrap (N:Int)=(N:Int):=IntWalk.i64_in _ (by omega);obtain⟨p,hp⟩:∃p,N-1=p:=⟨_,rfl⟩
  have hp1:((N:Int)-1)=(p:Int):=by omega
  have hwp:IntKind.i64.wrap (p:Int)=(p:Int):=IntWalk.i64_in _ (by omega);have ham1:a<mid:=by omega
  have hmidb:mid<b:=by omega
  obtain⟨lo,hi,hlh⟩:∃lo hi,(m>mid/\lo=N-b/\hi=mid)\/(m<=mid/\lo=a/\hi=m):=by
    by_cases h:m>mid
    · exact⟨_,_,.inl ⟨h,rfl,rfl⟩⟩
    · exact⟨_,_,.inr ⟨by omega,rfl,rfl⟩⟩
  have hlo1:a<=lo/\lo<=hi/\hi<=mid/\hi<=m/\N<=b+lo/\hi<N:=by omega
  have Hs:=Lib.hid (And.intro hsl hsr);have Hih:=Lib.hid ih;clear hsl hsr ih;by_cases hmm:m>mid
  · have hlo2:((N:Int)-(b:Int))=(lo:Int):=by omega
    have hwl:IntKind.i64.wrap (lo:Int)=(lo:Int):=IntWalk.i64_in _ (by omega);(go_wp2_with fail);go_loopw [20,21] (fun sv rv wr=>∃(s r:Nat),sv = .int .i64 s/\rv = .int .i64 r/\lo<=s/\s<=r/\r<=mid/\jR wr B g n cap f/\Hid ((lo<s->¬yC (f (N-s)) (f (s-1)))/\(r<mid->yC (f (N-1-r)) (f r)))/\z4 [g] w wr) (fun sv rv _=>(intOf rv).toNat-(intOf sv).toNat)
    case atStart =>
      exact⟨lo,mid,rfl,rfl,Nat.le_refl _,by omega,Nat.le_refl _,hown,Lib.hid ⟨fun h=>absurd h (by omega),fun h=>absurd h (by omega)⟩,z4.refl _ _⟩
    case round =>
      obtain⟨s,r,rfl,rfl,hi1,hij,hjb,ho,HH,hk⟩:=hrel;by_cases hlt:s<r
      · obtain⟨h,hh⟩:∃h,(s+r) / 2=h:=⟨_,rfl⟩
        have hh1:((s:Int)+(r:Int)) / 2=(h:Int):=by omega
        have hih:s<=h:=by omega
        have hhj:h<r:=by omega
        have hhn:h<n:=by omega
        obtain⟨x,hx⟩:∃x,p-h=x:=⟨_,rfl⟩
        have hx1:((p:Int)-(h:Int))=(x:Int):=by omega
        have hwx:IntKind.i64.wrap (x:Int)=(x:Int):=IntWalk.i64_in _ (by omega);have hxn:x<n:=by omega
        obtain⟨h2,hh2⟩:∃h2,h+1=h2:=⟨_,rfl⟩
        have hh3:((h:Int)+1)=(h2:Int):=by omega
        have hw3:IntKind.i64.wrap (h2:Int)=(h2:Int):=IntWalk.i64_in _ (by omega);have Hh2:=Lib.hid hh2;have c2:=gU (f x) (f h) wr.drew;have hd:=tK (f x) (f h);obtain⟨t,ht⟩:∃t,vF (f x) (f h)=t:=⟨_,rfl⟩
        rw[ht]at hd;obtain⟨O,hO⟩:∃O,sJ (f x) (f h)=O:=⟨_,rfl⟩
        rw[hO]at hd c2;have Ht:=Lib.hid ht;have Hx:=Lib.hid (show N-h2=x/\N-1-h=x by omega);have hor:-1<=O/\O<=1:=by rw[<-hO];exact gP _ _
        clear ht hO hh;go_upto_region 35 with fail
        refine zA (Bel wr) false (by kernel_rfl) (by kernel_rfl) (by kernel_rfl) (zC wr) ?_;have hne:=zQ wr;have hS:=zC wr;have b1:=zY (ho.row hhn);have b2:=zY (ho.row hxn);repeat(refine z6 ?_ ?_;(focus(simp only[z3];done));intro K hK;go_simp;refine hK _ ?_;clear hK K)
        refine zH ?_ ?_ ?_;(focus(exact hS));(focus(simp only[z3];done));intro K hK;go_simp;refine(c2).mono ?_;rintro e w' ⟨rfl,hb⟩;replace hS:=yN hS hb;refine⟨_,rfl,hS,hK _ _ ?_⟩;clear hK K hb;repeat(refine z6 ?_ ?_;(focus(simp only[z3];done));intro K hK;go_simp;refine hK _ ?_;clear hK K)
        refine zK ?_;intro hS;have hS':Below wr.heap.size wr w':=hS;have ho':jR w' B g n cap f:=Own.below ho hS';have hk':z4 [g] w w':=z4.trans hk (z4.of_below hS') (by simp);clear b1 b2 hne hS c2 hS' ho hk;cases t with
        | false =>
          (go_wp2_with fail);go_roundw
          case rel =>
            refine⟨h2,r,by go_num,by go_num,by omega,by omega,hjb,ho',Lib.hid ⟨fun _=>?_,HH.out.2⟩,hk'⟩;rw[Hx.out.1,<-Hh2.out];unfold yC;rw[Nat.add_sub_cancel,Ht.out];simp
          case measure=>simp[intOf];omega
        | true =>
          (go_wp2_with fail);go_roundw
          case rel =>
            refine⟨s,h,by go_num,by go_num,hi1,hih,by omega,ho',Lib.hid ⟨HH.out.1,fun _=>?_⟩,hk'⟩;rw[Hx.out.2];exact Ht.out
          case measure=>simp[intOf];omega
      · obtain rfl:s=r:=by omega
        obtain⟨z,hz⟩:∃z,N-s=z:=⟨_,rfl⟩
        have hz1:((N:Int)-(s:Int))=(z:Int):=by omega
        have hwz:IntKind.i64.wrap (z:Int)=(z:Int):=IntWalk.i64_in _ (by omega);have hq:=pZ dZ (mid:=mid) Hs.out.1 Hs.out.2 (show a<=s by omega) (show s<=m by omega) (show m<=z by omega) (show z<=b by omega) (by omega) (fun h1 h2=>by have h3:=HH.out.1 (by omega);rw[hz]at h3;exact h3) (fun h1 h2=>by have h3:=HH.out.2 (by omega);rw[show N-1-s=z-1 by omega]at h3;exact h3);have hfin:=fun f1 f2=>XC (f1:=f1) (f2:=f2) (mid:=mid) Hs.out.1 Hs.out.2 (show a<=s by omega) (show s<=m by omega) (show m<=z by omega) (show z<=b by omega) (by omega) (by omega) (by omega) (fun h1 h2=>by have h3:=HH.out.1 (by omega);rw[hz]at h3;exact h3) (fun h1 h2=>by have h3:=HH.out.2 (by omega);rw[show N-1-s=z-1 by omega]at h3;exact h3);have Hzs:=Lib.hid (show a<=s/\s<=m/\m<=z/\z<=b/\s+(z-m)=mid/\z=mid+(m-s)/\s<n/\z<=n by omega);have hrot:=fun w' h' h1 h2=>cK w' B g n cap f s m z (.func (.func 119) #[] #[]) h' h1 h2 (by omega) hn;clear HH hlh hlo1 hij hjb hz;by_cases hA:s<m/\m<z
        · have c1:=hrot wr ho hA.1 hA.2;clear hrot;obtain⟨F,hF⟩:∃F,rot f s m z=F:=⟨_,rfl⟩
          rw[hF]at c1 hq;have HF:=Lib.hid (show ∀f1 f2,(Sw a mid F f1/\Srt yC a mid f1)->(Sw mid b f1 f2/\Srt yC mid b f2)->Sw a b f f2/\Srt yC a b f2 by rw[<-hF];exact hfin);have HQ:=Lib.hid hq;clear hq hfin hF;have hA2:s<mid/\mid<z:=by have:=Hzs.out;omega
          (go_wp2_with fail);refine c1.mono ?_;rintro e w1 ⟨rfl,ho1,hk1⟩;have hk2:z4 [g] w w1:=z4.trans hk hk1 (by simp);clear c1 hk1 ho hk;rcases (show s=a\/a<s by have:=Hzs.out;omega)with hB | hB
          · have k1:Sw a mid F F/\Srt yC a mid F:=⟨Sw.refl _ _ _,by have h9:=HQ.out.2.1;rwa [hB]at h9⟩
            have K1:=Lib.hid k1;clear k1;have q3:Srt yC mid z F:=HQ.out.2.2.1.congr (fun k h1 h2=>K1.out.1.out (.inr h1));rcases (show z=b\/z<b by have:=Hzs.out;omega)with hC | hC
            · rw[hC]at q3;have hfi:=HF.out _ _ K1.out ⟨Sw.refl _ _ _,q3⟩;(go_wp2_with fail);refine bodyPost_end (results_none rfl _ _ _) rfl ?_;exact⟨rfl,⟨_,ho1,hfi⟩,hk2⟩
            · have q4:Srt yC z b F:=HQ.out.2.2.2.1.congr (fun k h1 h2=>K1.out.1.out (.inr (by have:=Hzs.out;omega)));have c4:=Hih.out mid z b (by have:=Hzs.out;omega) (by omega) hC (Nat.le_refl _) F w1 ho1 q3 q4;clear q3 q4;(go_wp2_with fail);refine c4.mono ?_;rintro e w5 ⟨rfl,⟨f5,ho5,k5⟩,hk5⟩;have hkz:z4 [g] w w5:=z4.trans hk2 hk5 (by simp);have hfi:=HF.out _ _ K1.out k5;clear c4 hk5;(go_wp2_with fail);refine bodyPost_end (results_none rfl _ _ _) rfl ?_;exact⟨rfl,⟨_,ho5,hfi⟩,hkz⟩
          · skip;have c3:=Hih.out a s mid (by have:=Hzs.out;omega) (by omega) (by omega) (by omega) F w1 ho1 HQ.out.1 HQ.out.2.1;(go_wp2_with fail);refine c3.mono ?_;rintro e w2 ⟨rfl,⟨f1,ho2,k1⟩,hk5⟩;have hk3:z4 [g] w w2:=z4.trans hk2 hk5 (by simp);have K1:=Lib.hid k1;clear c3 hk5 ho1 hk2 k1;have q3:Srt yC mid z f1:=HQ.out.2.2.1.congr (fun k h1 h2=>K1.out.1.out (.inr h1));rcases (show z=b\/z<b by have:=Hzs.out;omega)with hC | hC
            · rw[hC]at q3;have hfi:=HF.out _ _ K1.out ⟨Sw.refl _ _ _,q3⟩;(go_wp2_with fail);refine bodyPost_end (results_none rfl _ _ _) rfl ?_;exact⟨rfl,⟨_,ho2,hfi⟩,hk3⟩
            · have q4:Srt yC z b f1:=HQ.out.2.2.2.1.congr (fun k h1 h2=>K1.out.1.out (.inr (by have:=Hzs.out;omega)));have c4:=Hih.out mid z b (by have:=Hzs.out;omega) (by omega) hC (Nat.le_refl _) f1 w2 ho2 q3 q4;clear q3 q4;(go_wp2_with fail);refine c4.mono ?_;rintro e w5 ⟨rfl,⟨f5,ho5,k5⟩,hk5⟩;have hkz:z4 [g] w w5:=z4.trans hk3 hk5 (by simp);have hfi:=HF.out _ _ K1.out k5;clear c4 hk5;(go_wp2_with fail);refine bodyPost_end (results_none rfl _ _ _) rfl ?_;exact⟨rfl,⟨_,ho5,hfi⟩,hkz⟩
        · have hFs:rot f s m z=f:=by
            rcases (show s=m\/m=z by have:=Hzs.out;omega)with h | h
            · rw[h];exact mP f m z
            · rw[<-h];exact mN f s m
          rw[hFs]at hq hfin;have HF:=Lib.hid hfin;have HQ:=Lib.hid hq;clear hrot hq hfin hFs;have has:a<s:=by have:=Hzs.out;omega
          rcases (show(s=m/\z=mid)\/(s<m/\s=mid/\z=m) by have:=Hzs.out;omega)with hB | hB
          · have q3:=HQ.out.2.2.2.1;rw[hB.2]at q3;have n1:¬s<m:=by omega
            have n2:¬mid<z:=by omega
            clear hA hB;by_cases hC:s<mid
            · have c3:=Hih.out a s mid (by have:=Hzs.out;omega) (by omega) hC (by omega) f wr ho HQ.out.1 HQ.out.2.1;(go_wp2_with fail);refine c3.mono ?_;rintro e w2 ⟨rfl,⟨f1,ho2,k1⟩,hk5⟩;have hk3:z4 [g] w w2:=z4.trans hk hk5 (by simp);have hfi:=HF.out _ _ k1 ⟨Sw.refl _ _ _,q3.congr (fun k h1 h2=>k1.1.out (.inr h1))⟩;clear c3 hk5 ho hk k1 q3;(go_wp2_with fail);refine bodyPost_end (results_none rfl _ _ _) rfl ?_;exact⟨rfl,⟨_,ho2,hfi⟩,hk3⟩
            · have q1:=HQ.out.1;rw[show s=mid by have:=Hzs.out;omega]at q1;have hfi:=HF.out _ _ ⟨Sw.refl _ _ _,q1⟩ ⟨Sw.refl _ _ _,q3⟩;clear q1 q3;(go_wp2_with fail);refine bodyPost_end (results_none rfl _ _ _) rfl ?_;exact⟨rfl,⟨_,ho,hfi⟩,hk⟩
          · have q1:=HQ.out.1;rw[hB.2.1]at q1;have q3:=HQ.out.2.2.1;have q4:=HQ.out.2.2.2.1;have hzb:z<b:=by omega
            have c4:=Hih.out mid z b (by have:=Hzs.out;omega) (by omega) hzb (Nat.le_refl _) f wr ho q3 q4;clear q3 q4;have n0:s<m:=hB.1;have n1:¬m<z:=by omega
            have n2:¬s<mid:=by omega
            have n3:mid<z:=by omega
            clear hA hB;(go_wp2_with fail);refine c4.mono ?_;rintro e w5 ⟨rfl,⟨f5,ho5,k5⟩,hk5⟩;have hkz:z4 [g] w w5:=z4.trans hk hk5 (by simp);have hfi:=HF.out _ _ ⟨Sw.refl _ _ _,q1⟩ k5;clear c4 hk5;(go_wp2_with fail);refine bodyPost_end (results_none rfl _ _ _) rfl ?_;exact⟨rfl,⟨_,ho5,hfi⟩,hkz⟩
  · (go_wp2_with fail);go_loopw [20,21] (fun sv rv wr=>∃(s r:Nat),sv = .int .i64 s/\rv = .int .i64 r/\a<=s/\s<=r/\r<=m/\jR wr B g n cap f/\Hid ((a<s->¬yC (f (N-s)) (f (s-1)))/\(r<m->yC (f (N-1-r)) (f r)))/\z4 [g] w wr) (fun sv rv _=>(intOf rv).toNat-(intOf sv).toNat)
    case atStart =>
      exact⟨a,m,rfl,rfl,Nat.le_refl _,by omega,Nat.le_refl _,hown,Lib.hid ⟨fun h=>absurd h (by omega),fun h=>absurd h (by omega)⟩,z4.refl _ _⟩
    case round =>
      obtain⟨s,r,rfl,rfl,hi1,hij,hjb,ho,HH,hk⟩:=hrel;by_cases hlt:s<r
      · obtain⟨h,hh⟩:∃h,(s+r) / 2=h:=⟨_,rfl⟩
        have hh1:((s:Int)+(r:Int)) / 2=(h:Int):=by omega
        have hih:s<=h:=by omega
        have hhj:h<r:=by omega
        have hhn:h<n:=by omega
        obtain⟨x,hx⟩:∃x,p-h=x:=⟨_,rfl⟩
        have hx1:((p:Int)-(h:Int))=(x:Int):=by omega
        have hwx:IntKind.i64.wrap (x:Int)=(x:Int):=IntWalk.i64_in _ (by omega);have hxn:x<n:=by omega
        obtain⟨h2,hh2⟩:∃h2,h+1=h2:=⟨_,rfl⟩
        have hh3:((h:Int)+1)=(h2:Int):=by omega
        have hw3:IntKind.i64.wrap (h2:Int)=(h2:Int):=IntWalk.i64_in _ (by omega);have Hh2:=Lib.hid hh2;have c2:=gU (f x) (f h) wr.drew;have hd:=tK (f x) (f h);obtain⟨t,ht⟩:∃t,vF (f x) (f h)=t:=⟨_,rfl⟩
        rw[ht]at hd;obtain⟨O,hO⟩:∃O,sJ (f x) (f h)=O:=⟨_,rfl⟩
        rw[hO]at hd c2;have Ht:=Lib.hid ht;have Hx:=Lib.hid (show N-h2=x/\N-1-h=x by omega);have hor:-1<=O/\O<=1:=by rw[<-hO];exact gP _ _
        clear ht hO hh;go_upto_region 35 with fail
        refine zA (Bel wr) false (by kernel_rfl) (by kernel_rfl) (by kernel_rfl) (zC wr) ?_;have hne:=zQ wr;have hS:=zC wr;have b1:=zY (ho.row hhn);have b2:=zY (ho.row hxn);repeat(refine z6 ?_ ?_;(focus(simp only[z3];done));intro K hK;go_simp;refine hK _ ?_;clear hK K)
        refine zH ?_ ?_ ?_;(focus(exact hS));(focus(simp only[z3];done));intro K hK;go_simp;refine(c2).mono ?_;rintro e w' ⟨rfl,hb⟩;replace hS:=yN hS hb;refine⟨_,rfl,hS,hK _ _ ?_⟩;clear hK K hb;repeat(refine z6 ?_ ?_;(focus(simp only[z3];done));intro K hK;go_simp;refine hK _ ?_;clear hK K)
        refine zK ?_;intro hS;have hS':Below wr.heap.size wr w':=hS;have ho':jR w' B g n cap f:=Own.below ho hS';have hk':z4 [g] w w':=z4.trans hk (z4.of_below hS') (by simp);clear b1 b2 hne hS c2 hS' ho hk;cases t with
        | false =>
          (go_wp2_with fail);go_roundw
          case rel =>
            refine⟨h2,r,by go_num,by go_num,by omega,by omega,hjb,ho',Lib.hid ⟨fun _=>?_,HH.out.2⟩,hk'⟩;rw[Hx.out.1,<-Hh2.out];unfold yC;rw[Nat.add_sub_cancel,Ht.out];simp
          case measure=>simp[intOf];omega
        | true =>
          (go_wp2_with fail);go_roundw
          case rel =>
            refine⟨s,h,by go_num,by go_num,hi1,hih,by omega,ho',Lib.hid ⟨HH.out.1,fun _=>?_⟩,hk'⟩;rw[Hx.out.2];exact Ht.out
          case measure=>simp[intOf];omega
      · obtain rfl:s=r:=by omega
        obtain⟨z,hz⟩:∃z,N-s=z:=⟨_,rfl⟩
        have hz1:((N:Int)-(s:Int))=(z:Int):=by omega
        have hwz:IntKind.i64.wrap (z:Int)=(z:Int):=IntWalk.i64_in _ (by omega);have hq:=pZ dZ (mid:=mid) Hs.out.1 Hs.out.2 (show a<=s by omega) (show s<=m by omega) (show m<=z by omega) (show z<=b by omega) (by omega) (fun h1 h2=>by have h3:=HH.out.1 (by omega);rw[hz]at h3;exact h3) (fun h1 h2=>by have h3:=HH.out.2 (by omega);rw[show N-1-s=z-1 by omega]at h3;exact h3);have hfin:=fun f1 f2=>XC (f1:=f1) (f2:=f2) (mid:=mid) Hs.out.1 Hs.out.2 (show a<=s by omega) (show s<=m by omega) (show m<=z by omega) (show z<=b by omega) (by omega) (by omega) (by omega) (fun h1 h2=>by have h3:=HH.out.1 (by omega);rw[hz]at h3;exact h3) (fun h1 h2=>by have h3:=HH.out.2 (by omega);rw[show N-1-s=z-1 by omega]at h3;exact h3);have Hzs:=Lib.hid (show a<=s/\s<=m/\m<=z/\z<=b/\s+(z-m)=mid/\z=mid+(m-s)/\s<n/\z<=n by omega);have hrot:=fun w' h' h1 h2=>cK w' B g n cap f s m z (.func (.func 119) #[] #[]) h' h1 h2 (by omega) hn;clear HH hlh hlo1 hij hjb hz;by_cases hA:s<m/\m<z
        · have c1:=hrot wr ho hA.1 hA.2;clear hrot;obtain⟨F,hF⟩:∃F,rot f s m z=F:=⟨_,rfl⟩
          rw[hF]at c1 hq;have HF:=Lib.hid (show ∀f1 f2,(Sw a mid F f1/\Srt yC a mid f1)->(Sw mid b f1 f2/\Srt yC mid b f2)->Sw a b f f2/\Srt yC a b f2 by rw[<-hF];exact hfin);have HQ:=Lib.hid hq;clear hq hfin hF;have hA2:s<mid/\mid<z:=by have:=Hzs.out;omega
          (go_wp2_with fail);refine c1.mono ?_;rintro e w1 ⟨rfl,ho1,hk1⟩;have hk2:z4 [g] w w1:=z4.trans hk hk1 (by simp);clear c1 hk1 ho hk;rcases (show s=a\/a<s by have:=Hzs.out;omega)with hB | hB
          · have k1:Sw a mid F F/\Srt yC a mid F:=⟨Sw.refl _ _ _,by have h9:=HQ.out.2.1;rwa [hB]at h9⟩
            have K1:=Lib.hid k1;clear k1;have q3:Srt yC mid z F:=HQ.out.2.2.1.congr (fun k h1 h2=>K1.out.1.out (.inr h1));rcases (show z=b\/z<b by have:=Hzs.out;omega)with hC | hC
            · rw[hC]at q3;have hfi:=HF.out _ _ K1.out ⟨Sw.refl _ _ _,q3⟩;(go_wp2_with fail);refine bodyPost_end (results_none rfl _ _ _) rfl ?_;exact⟨rfl,⟨_,ho1,hfi⟩,hk2⟩
            · have q4:Srt yC z b F:=HQ.out.2.2.2.1.congr (fun k h1 h2=>K1.out.1.out (.inr (by have:=Hzs.out;omega)));have c4:=Hih.out mid z b (by have:=Hzs.out;omega) (by omega) hC (Nat.le_refl _) F w1 ho1 q3 q4;clear q3 q4;(go_wp2_with fail);refine c4.mono ?_;rintro e w5 ⟨rfl,⟨f5,ho5,k5⟩,hk5⟩;have hkz:z4 [g] w w5:=z4.trans hk2 hk5 (by simp);have hfi:=HF.out _ _ K1.out k5;clear c4 hk5;(go_wp2_with fail);refine bodyPost_end (results_none rfl _ _ _) rfl ?_;exact⟨rfl,⟨_,ho5,hfi⟩,hkz⟩
          · skip;have c3:=Hih.out a s mid (by have:=Hzs.out;omega) (by omega) (by omega) (by omega) F w1 ho1 HQ.out.1 HQ.out.2.1;(go_wp2_with fail);refine c3.mono ?_;rintro e w2 ⟨rfl,⟨f1,ho2,k1⟩,hk5⟩;have hk3:z4 [g] w w2:=z4.trans hk2 hk5 (by simp);have K1:=Lib.hid k1;clear c3 hk5 ho1 hk2 k1;have q3:Srt yC mid z f1:=HQ.out.2.2.1.congr (fun k h1 h2=>K1.out.1.out (.inr h1));rcases (show z=b\/z<b by have:=Hzs.out;omega)with hC | hC
            · rw[hC]at q3;have hfi:=HF.out _ _ K1.out ⟨Sw.refl _ _ _,q3⟩;(go_wp2_with fail);refine bodyPost_end (results_none rfl _ _ _) rfl ?_;exact⟨rfl,⟨_,ho2,hfi⟩,hk3⟩
            · have q4:Srt yC z b f1:=HQ.out.2.2.2.1.congr (fun k h1 h2=>K1.out.1.out (.inr (by have:=Hzs.out;omega)));have c4:=Hih.out mid z b (by have:=Hzs.out;omega) (by omega) hC (Nat.le_refl _) f1 w2 ho2 q3 q4;clear q3 q4;(go_wp2_with fail);refine c4.mono ?_;rintro e w5 ⟨rfl,⟨f5,ho5,k5⟩,hk5⟩;have hkz:z4 [g] w w5:=z4.trans hk3 hk5 (by simp);have hfi:=HF.out _ _ K1.out k5;clear c4 hk5;(go_wp2_with fail);refine bodyPost_end (results_none rfl _ _ _) rfl ?_;exact⟨rfl,⟨_,ho5,hfi⟩,hkz⟩
        · have hFs:rot f s m z=f:=by
            rcases (show s=m\/m=z by have:=Hzs.out;omega)with h | h
            · rw[h];exact mP f m z
            · rw[<-h];exact mN f s m
          rw[hFs]at hq hfin;have HF:=Lib.hid hfin;have HQ:=Lib.hid hq;clear hrot hq hfin hFs;have has:a<s:=by have:=Hzs.out;omega
          rcases (show(s=m/\z=mid)\/(s<m/\s=mid/\z=m) by have:=Hzs.out;omega)with hB | hB
          · have q3:=HQ.out.2.2.2.1;rw[hB.2]at q3;have n1:¬s<m:=by omega
            have n2:¬mid<z:=by omega
            clear hA hB;by_cases hC:s<mid
            · have c3:=Hih.out a s mid (by have:=Hzs.out;omega) (by omega) hC (by omega) f wr ho HQ.out.1 HQ.out.2.1;(go_wp2_with fail);refine c3.mono ?_;rintro e w2 ⟨rfl,⟨f1,ho2,k1⟩,hk5⟩;have hk3:z4 [g] w w2:=z4.trans hk hk5 (by simp);have hfi:=HF.out _ _ k1 ⟨Sw.refl _ _ _,q3.congr (fun k h1 h2=>k1.1.out (.inr h1))⟩;clear c3 hk5 ho hk k1 q3;(go_wp2_with fail);refine bodyPost_end (results_none rfl _ _ _) rfl ?_;exact⟨rfl,⟨_,ho2,hfi⟩,hk3⟩
            · have q1:=HQ.out.1;rw[show s=mid by have:=Hzs.out;omega]at q1;have hfi:=HF.out _ _ ⟨Sw.refl _ _ _,q1⟩ ⟨Sw.refl _ _ _,q3⟩;clear q1 q3;(go_wp2_with fail);refine bodyPost_end (results_none rfl _ _ _) rfl ?_;exact⟨rfl,⟨_,ho,hfi⟩,hk⟩
          · have q1:=HQ.out.1;rw[hB.2.1]at q1;have q3:=HQ.out.2.2.1;have q4:=HQ.out.2.2.2.1;have hzb:z<b:=by omega
            have c4:=Hih.out mid z b (by have:=Hzs.out;omega) (by omega) hzb (Nat.le_refl _) f wr ho q3 q4;clear q3 q4;have n0:s<m:=hB.1;have n1:¬m<z:=by omega
            have n2:¬s<mid:=by omega
            have n3:mid<z:=by omega
            clear hA hB;(go_wp2_with fail);refine c4.mono ?_;rintro e w5 ⟨rfl,⟨f5,ho5,k5⟩,hk5⟩;have hkz:z4 [g] w w5:=z4.trans hk hk5 (by simp);have hfi:=HF.out _ _ ⟨Sw.refl _ _ _,q1⟩ k5;clear c4 hk5;(go_wp2_with fail);refine bodyPost_end (results_none rfl _ _ _) rfl ?_;exact⟨rfl,⟨_,ho5,hfi⟩,hkz⟩
end
section
open Go.RowKit Stb
theorem nG (B g n cap:Nat) (hn:n<=1000000):∀(N a m b:Nat),b-a<N->a<m->m<b->b<=n->SymM g n cap B a m b:=by
  intro N;induction N with
  | zero=>intro a m b h;omega
  | succ N ih =>
    intro a m b hN ham hmb hbn f w hown h1 h2;by_cases e1:a+1=m
    · subst e1;exact js w B g n cap f a b hown hmb hbn hn h2
    · by_cases e2:m+1=b
      · subst e2;exact jq w B g n cap f a m hown (by omega) hbn hn h1
      · exact jr w B g n cap f a m b hown (by omega) (by omega) hbn hn h1 h2 (fun a' m' b' k1 k2 k3 k4=>ih a' m' b' (by omega) k2 k3 (by omega))
end
section
open Go.RowKit Stb
theorem JT (w:World) (B g n cap:Nat) (f:Nat->zG) (hown:jR w B g n cap f) (hn:n<=30) :
    Calls Tryz.prog 147 #[.slice (some ⟨g,0,none⟩) n cap,.int .i64 n,.func (.func 119) #[] #[]] w fun e w'=>e = .returned (.tuple #[])/\(∃f',jR w' B g n cap f'/\Sw 0 n f f'/\Srt yC 0 n f')/\z4 [g] w w':=by
  go_enter Tryz.func147,Tryz.ntmps147
  (go_wp2_with fail);go_loopw [7,8] (fun av bv wr=>(av = .int .i64 0/\bv = .int .i64 20/\jR wr B g n cap f/\z4 [g] w wr)\/(av = .int .i64 20/\bv = .int .i64 40/\20<=n/\(∃f',jR wr B g n cap f'/\Hid (Sw 0 n f f'/\Srt yC 0 20 f'))/\z4 [g] w wr)) (fun av _ _=>40-(intOf av).toNat)
  case atStart=>exact .inl ⟨rfl,rfl,hown,z4.refl _ _⟩
  case round =>
    rcases hrel with⟨rfl,rfl,ho,hk⟩ | ⟨rfl,rfl,hn20,⟨f1,ho,H1⟩,hk⟩
    · by_cases h20:20<=n
      · have hg:((20:Int)<=(n:Int)):=by omega
        have c1:=tP wr B g n cap f 0 20 ho (by omega) h20 (by omega);(go_wp2_with fail);refine c1.mono ?_;rintro e w1 ⟨rfl,⟨f1,ho1,hs1,hs2⟩,hk1⟩;have hkz:z4 [g] w w1:=z4.trans hk hk1 (by simp);have H1:=Lib.hid (And.intro (hs1.wide (Nat.le_refl 0) h20) hs2);clear c1 hk hk1 hs1 hs2 ho;(go_wp2_with fail);go_roundw
        case rel=>exact .inr ⟨by go_num,by go_num,h20,⟨f1,ho1,H1⟩,hkz⟩
        case measure=>simp[intOf]
      · have hg:¬((20:Int)<=(n:Int)):=by omega
        have c1:=tP wr B g n cap f 0 n ho (by omega) (Nat.le_refl _) (by omega);have h20':¬((20:Int)<(n:Int)):=by omega
        (go_wp2_with fail);refine c1.mono ?_;rintro e w1 ⟨rfl,⟨f1,ho1,hs1,hs2⟩,hk1⟩;have hkz:z4 [g] w w1:=z4.trans hk hk1 (by simp);have H2:=Lib.hid (show Sw 0 n f f1/\(n<=20->Srt yC 0 n f1)/\(20<n->Srt yC 0 20 f1/\Srt yC 20 n f1)from⟨hs1,fun _=>hs2,fun h=>by omega⟩);clear c1 hk hk1 hs1 hs2 ho hg h20 h20';(go_wp2_with fail);go_loopw [6] (fun bs wr=>∃f3,jR wr B g n cap f3/\z4 [g] w wr/\((bs = .int .i64 20/\Hid (Sw 0 n f f3/\(n<=20->Srt yC 0 n f3)/\(20<n->Srt yC 0 20 f3/\Srt yC 20 n f3)))\/(bs = .int .i64 40/\Hid (Sw 0 n f f3/\Srt yC 0 n f3)))) (fun bs _=>40-(intOf bs).toNat)
        case atStart=>exact⟨_,ho1,hkz,.inl ⟨rfl,H2⟩⟩
        case round =>
          clear ho1 hkz H2;obtain⟨f3,ho,hk,⟨rfl,H2⟩ | ⟨rfl,H2⟩⟩:=hrel
          · by_cases hb20:20<n
            · have hb:((20:Int)<(n:Int)):=by omega
              have hb2:¬((40:Int)<=(n:Int)):=by omega
              have c2:=nG B g n cap (by omega) (n+1) 0 20 n (by omega) (by omega) hb20 (Nat.le_refl _) f3 wr ho (H2.out.2.2 hb20).1 (H2.out.2.2 hb20).2;(go_wp2_with fail);go_loopw [7,8] (fun av bv wj=>av = .int .i64 0/\bv = .int .i64 40/\wj=wr) (fun _ _ _=>0)
              case atStart=>exact⟨rfl,rfl,rfl⟩
              case round =>
                obtain⟨rfl,rfl,rfl⟩:=hrel;(go_wp2_with fail);refine c2.mono ?_;rintro e w4 ⟨rfl,⟨f4,ho4,hs3,hs4⟩,hk4⟩;have hkz:z4 [g] w w4:=z4.trans hk hk4 (by simp);have H3:=Lib.hid (And.intro (H2.out.1.trans hs3) hs4);clear c2 hk hk4 hs3 hs4 ho;(go_wp2_with fail);go_roundw
                case rel=>exact⟨f4,ho4,hkz,.inr ⟨by go_num,H3⟩⟩
                case measure=>simp[intOf]
            · have hb:¬((20:Int)<(n:Int)):=by omega
              (go_wp2_with fail);refine bodyPost_end (results_none rfl _ _ _) rfl ?_;exact⟨rfl,⟨f3,ho,H2.out.1,H2.out.2.1 (by omega)⟩,hk⟩
          · have hb:¬((40:Int)<(n:Int)):=by omega
            (go_wp2_with fail);refine bodyPost_end (results_none rfl _ _ _) rfl ?_;exact⟨rfl,⟨f3,ho,H2.out.1,H2.out.2⟩,hk⟩
    · have hg:¬((40:Int)<=(n:Int)):=by omega
      have c1:=tP wr B g n cap f1 20 n ho hn20 (Nat.le_refl _) (by omega);(go_wp2_with fail);refine c1.mono ?_;rintro e w1 ⟨rfl,⟨f2,ho1,hs1,hs2⟩,hk1⟩;have hkz:z4 [g] w w1:=z4.trans hk hk1 (by simp);have q1:Srt yC 0 20 f2:=H1.out.2.congr (fun k h1 h2=>hs1.out (.inl h2));have H2:=Lib.hid (show Sw 0 n f f2/\(n<=20->Srt yC 0 n f2)/\(20<n->Srt yC 0 20 f2/\Srt yC 20 n f2)from⟨H1.out.1.trans (hs1.wide (by omega) (Nat.le_refl _)),fun h=>by rw[show n=20 by omega];exact q1,fun _=>⟨q1,hs2⟩⟩);clear c1 hk hk1 hs1 hs2 ho q1 H1;(go_wp2_with fail);go_loopw [6] (fun bs wr=>∃f3,jR wr B g n cap f3/\z4 [g] w wr/\((bs = .int .i64 20/\Hid (Sw 0 n f f3/\(n<=20->Srt yC 0 n f3)/\(20<n->Srt yC 0 20 f3/\Srt yC 20 n f3)))\/(bs = .int .i64 40/\Hid (Sw 0 n f f3/\Srt yC 0 n f3)))) (fun bs _=>40-(intOf bs).toNat)
      case atStart=>exact⟨_,ho1,hkz,.inl ⟨rfl,H2⟩⟩
      case round =>
        clear ho1 hkz H2;obtain⟨f3,ho,hk,⟨rfl,H2⟩ | ⟨rfl,H2⟩⟩:=hrel
        · by_cases hb20:20<n
          · have hb:((20:Int)<(n:Int)):=by omega
            have hb2:¬((40:Int)<=(n:Int)):=by omega
            have c2:=nG B g n cap (by omega) (n+1) 0 20 n (by omega) (by omega) hb20 (Nat.le_refl _) f3 wr ho (H2.out.2.2 hb20).1 (H2.out.2.2 hb20).2;(go_wp2_with fail);go_loopw [7,8] (fun av bv wj=>av = .int .i64 0/\bv = .int .i64 40/\wj=wr) (fun _ _ _=>0)
            case atStart=>exact⟨rfl,rfl,rfl⟩
            case round =>
              obtain⟨rfl,rfl,rfl⟩:=hrel;(go_wp2_with fail);refine c2.mono ?_;rintro e w4 ⟨rfl,⟨f4,ho4,hs3,hs4⟩,hk4⟩;have hkz:z4 [g] w w4:=z4.trans hk hk4 (by simp);have H3:=Lib.hid (And.intro (H2.out.1.trans hs3) hs4);clear c2 hk hk4 hs3 hs4 ho;(go_wp2_with fail);go_roundw
              case rel=>exact⟨f4,ho4,hkz,.inr ⟨by go_num,H3⟩⟩
              case measure=>simp[intOf]
          · have hb:¬((20:Int)<(n:Int)):=by omega
            (go_wp2_with fail);refine bodyPost_end (results_none rfl _ _ _) rfl ?_;exact⟨rfl,⟨f3,ho,H2.out.1,H2.out.2.1 (by omega)⟩,hk⟩
        · have hb:¬((40:Int)<(n:Int)):=by omega
          (go_wp2_with fail);refine bodyPost_end (results_none rfl _ _ _) rfl ?_;exact⟨rfl,⟨f3,ho,H2.out.1,H2.out.2⟩,hk⟩
theorem cF (w:World) (B g n cap:Nat) (f:Nat->zG) (hown:jR w B g n cap f) (hn:n<=30) :
    Calls Tryz.prog 118 #[.slice (some ⟨g,0,none⟩) n cap,.func (.func 119) #[] #[]] w fun e w'=>e = .returned (.tuple #[])/\(∃f',jR w' B g n cap f'/\Sw 0 n f f'/\Srt yC 0 n f')/\z4 [g] w w':=by
  have c1:=JT w B g n cap f hown hn;go_enter Tryz.func118,Tryz.ntmps118
  (go_wp2_with fail);refine c1.mono ?_;rintro e w1 ⟨rfl,h1,hk1⟩;(go_wp2_with fail);refine bodyPost_end (results_none rfl _ _ _) rfl ?_;exact⟨rfl,h1,hk1⟩
end
end Go.Proofs.YtgedpfebepdcmaaGreatDoor
